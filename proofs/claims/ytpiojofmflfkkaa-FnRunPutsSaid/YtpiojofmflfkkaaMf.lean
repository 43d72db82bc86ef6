/- Parts of the proof, merged: Zg, Zh, Zs, Zk. -/
import Derived.Test.YtpiojofmflfkkaaMe
import Derived.Test.YtpiojofmflfkkaaMa
import Derived.Test.YtpiojofmflfkkaaMd
import Derived.Deep.QuietTactic
import Derived.BigQuiet
/- PagesSince of the program. -/
namespace Go.Proofs.Ytpiojofmflfkkaa
open Go.RowKit
def stampOf (D : List Bk) (k : Nat) : Int := (pgAt D k).stamp
def sinceGood (D : List Bk) (s : Int) (k : Nat) : Bool := (pgAt D k).full && decide (s < (pgAt D k).stamp)
def since (D : List Bk) (s : Int) (n : Nat) : List Nat := (List.range n).filter (sinceGood D s)
def pagesSince (D : List Bk) (s : Int) : List Nat := if DvOk D then srt (stampOf D) (since D s (4 * D.length)) else []
theorem since_yes {D : List Bk} {s : Int} {k : Nat} (h : sinceGood D s k = true) : since D s (k + 1) = since D s k ++ [k] := by
  unfold since; rw [List.range_succ, List.filter_append]; simp [h]
theorem since_no {D : List Bk} {s : Int} {k : Nat} (h : sinceGood D s k = false) : since D s (k + 1) = since D s k := by
  unfold since; rw [List.range_succ, List.filter_append]; simp [h]
theorem since_len (D : List Bk) (s : Int) (n : Nat) : (since D s n).length ≤ n := by
  have := List.length_filter_le (sinceGood D s) (List.range n)
  rw [List.length_range] at this
  exact this
theorem since_lt {D : List Bk} {s : Int} {n x : Nat} (h : x ∈ since D s n) : x < n := by
  unfold since at h; rw [List.mem_filter, List.mem_range] at h; exact h.1
theorem since_good {D : List Bk} {s : Int} {n x : Nat} (h : x ∈ since D s n) : sinceGood D s x = true := by
  unfold since at h; rw [List.mem_filter] at h; exact h.2
theorem since_pair (D : List Bk) (s : Int) (n : Nat) : (since D s n).Pairwise (· < ·) := List.pairwise_lt_range.filter _
theorem rowc_icells (L : List Nat) : rowc L = icells (L.map fun (n : Nat) => (n : Int)) := by simp [rowc, icells]
theorem rowc_one (L : List Nat) : ∀ u ∈ rowc L, u.oneCell' = true := fun u hu => by
  unfold rowc at hu; rw [List.mem_map] at hu; obtain ⟨n, _, rfl⟩ := hu; rfl
theorem pagesSince_len (D : List Bk) (s : Int) : (pagesSince D s).length ≤ 48 := by
  unfold pagesSince
  split
  · rename_i h
    rw [srt_length]
    have := since_len D s (4 * D.length)
    have := h.1.2
    omega
  · simp
def PsP (w : World) (D : List Bk) (s : Int) (e : Ending) (w' : World) : Prop :=
  ∃ A c, e = .returned (.slice A (pagesSince D s).length c) ∧ OwnS w.heap.size w'.heap.size w' 3 A (pagesSince D s).length c (rowc (pagesSince D s)) ∧ Chg NoB w w'
theorem srt_nil (K : Nat → Int) : srt K [] = [] := List.eq_nil_of_length_eq_zero (by rw [srt_length]; rfl)
theorem run_stamp (p : Pg) (w : World) : Sem.run Try.prog (Instr.field 80 (pval p) 4) w = .ok (.int .i64 p.stamp) w := by kernel_rfl
set_option maxRecDepth 100000 in
set_option maxHeartbeats 1000000 in
theorem cmpInt_any (x y : Int) (w : World) : Calls Try.prog 114 #[.int .i64 x, .int .i64 y] w fun e w' => e = .returned (.int .i64 (cmp3 x y)) ∧ Chg NoB w w' := by
  have hn : ∀ z wq, Calls Try.prog 154 #[.int .i64 z] wq fun e w' => e = .returned (.bool false) ∧ wq = w' := fun z wq => by
    have hz : (z != z) = false := by simp
    go_enter Try.func154, Try.ntmps154
    go_wp2
    go_ret
    exact ⟨rfl, rfl⟩
  have HN := Lib.hid hn
  clear hn
  by_cases h1 : x < y
  · have e : cmp3 x y = -1 := if_pos h1
    have HE := Lib.hid e
    clear e
    go_enter Try.func114, Try.ntmps114
    go_wp2_with fail
    refine (HN.out _ _).mono ?_
    rintro e w1 ⟨rfl, rfl⟩
    go_wp2_with fail
    refine (HN.out _ _).mono ?_
    rintro e w1 ⟨rfl, rfl⟩
    go_wp2
    go_ret
    exact ⟨ret_int HE.out.symm, Chg.refl _ _⟩
  by_cases h2 : y < x
  · have e : cmp3 x y = 1 := by unfold cmp3; rw [if_neg h1, if_pos h2]
    have HE := Lib.hid e
    have h2' : x > y := h2
    clear e
    go_enter Try.func114, Try.ntmps114
    go_wp2_with fail
    refine (HN.out _ _).mono ?_
    rintro e w1 ⟨rfl, rfl⟩
    go_wp2_with fail
    refine (HN.out _ _).mono ?_
    rintro e w1 ⟨rfl, rfl⟩
    go_wp2
    go_ret
    exact ⟨ret_int HE.out.symm, Chg.refl _ _⟩
  · have e : cmp3 x y = 0 := by unfold cmp3; rw [if_neg h1, if_neg h2]
    have HE := Lib.hid e
    have h2' : ¬ x > y := h2
    clear e
    go_enter Try.func114, Try.ntmps114
    go_wp2_with fail
    refine (HN.out _ _).mono ?_
    rintro e w1 ⟨rfl, rfl⟩
    go_wp2_with fail
    refine (HN.out _ _).mono ?_
    rintro e w1 ⟨rfl, rfl⟩
    go_wp2
    go_ret
    exact ⟨ret_int HE.out.symm, Chg.refl _ _⟩
set_option maxRecDepth 100000 in
set_option maxHeartbeats 1000000 in
theorem closure_any (F : Nat → Prop) (A : Option Addr) (c : Nat) (D : List Bk) (B x y : Nat) (w : World) (hr : DevR F w A D) (hd : DvOk D) (cd : w.cell? ⟨B, 0, none⟩ = some (.slice A D.length c)) (hx : x < 4 * D.length) (hy : y < 4 * D.length) :
    Calls Try.prog 113 #[.int .i64 x, .int .i64 y, .pointer (some ⟨B, 0, none⟩)] w fun e w' => e = .returned (.int .i64 (cmp3 (stampOf D x) (stampOf D y))) ∧ Chg NoB w w' := by
  have HP := Lib.hid (show ∀ wq, Chg NoB w wq → ∀ z, z < 4 * D.length → Calls Try.prog 72 #[.slice A D.length c, .int .i64 (z : Nat)] wq fun e w' => e = .returned (pval (pgAt D z)) ∧ Chg NoB wq w' from fun wq hq z hz => pageAt_any F A c D z wq (hr.new hq) hd hz)
  have HX := Lib.hid hx
  have HY := Lib.hid hy
  clear hr hd hx hy
  go_enter Try.func113, Try.ntmps113
  go_wp2_with fail
  refine wp_region_ro (gl := []) (WInv := fun _ _ w5 => Chg NoB w w5) (R := Chg NoB) (Post := PV [some (.slice A D.length c), some (.int .i64 (x : Int)), some (pval (pgAt D x)), some (.int .i64 (stampOf D x)), some (.slice A D.length c), some (.int .i64 (y : Int)), some (pval (pgAt D y)), some (.int .i64 (stampOf D y)), some (.int .i64 (cmp3 (stampOf D x) (stampOf D y))), some (.int .i64 (cmp3 (stampOf D x) (stampOf D y)))]) (by kernel_rfl) (by kernel_rfl) (pv_guard (by intro p hp; cases hp)) (fun _ _ _ _ h _ _ => h) (fun _ _ _ _ h _ => h) (Chg.refl _ _).drew ⟨?_, ?_, ?_, ?_, ?_, ?_, ?_, ?_, ?_, ?_, trivial⟩ ?_
  · rintro kc m a w5 hkc hch hm hn
    obtain ⟨e1, -⟩ := hn
    replace e1 : a.tmps[2]?.getD undef = .pointer (some ⟨B, 0, none⟩) := e1
    have c0 := Chg.cell hch cd (fun x => x)
    exact rg_val (v := .slice A D.length c) (by simp [execOp, go_sem, e1, c0]) rfl hch (Chg.refl _ _) rfl
  · rintro kc m a w5 hkc hch hm hn
    obtain ⟨e1, -⟩ := hn
    replace e1 : a.tmps[0]?.getD undef = .int .i64 (x : Int) := e1
    exact rg_val (v := .int .i64 (x : Int)) (by simp [execOp, go_sem, e1]) rfl hch (Chg.refl _ _) rfl
  · rintro kc m a w5 hkc hch hm hn
    obtain ⟨⟨_, e1, _, rfl⟩, ⟨_, e2, _, rfl⟩, -⟩ := hn
    refine rg_call (f := 72) (args := #[.slice A D.length c, .int .i64 (x : Int)]) (by simp [go_sem, e1, e2]) rfl ?_
    refine (HP.out _ hch x HX.out).mono ?_
    rintro e w6 ⟨rfl, hc6⟩
    exact ⟨_, rfl, hch.trans hc6, hc6, rfl⟩
  · rintro kc m a w5 hkc hch hm hn
    obtain ⟨⟨_, e1, _, rfl⟩, -⟩ := hn
    exact rg_val (v := .int .i64 (stampOf D x)) (by simp [execOp, go_sem, e1, run_stamp, stampOf]) rfl hch (Chg.refl _ _) rfl
  · rintro kc m a w5 hkc hch hm hn
    obtain ⟨e1, -⟩ := hn
    replace e1 : a.tmps[2]?.getD undef = .pointer (some ⟨B, 0, none⟩) := e1
    have c0 := Chg.cell hch cd (fun x => x)
    exact rg_val (v := .slice A D.length c) (by simp [execOp, go_sem, e1, c0]) rfl hch (Chg.refl _ _) rfl
  · rintro kc m a w5 hkc hch hm hn
    obtain ⟨e1, -⟩ := hn
    replace e1 : a.tmps[1]?.getD undef = .int .i64 (y : Int) := e1
    exact rg_val (v := .int .i64 (y : Int)) (by simp [execOp, go_sem, e1]) rfl hch (Chg.refl _ _) rfl
  · rintro kc m a w5 hkc hch hm hn
    obtain ⟨⟨_, e1, _, rfl⟩, ⟨_, e2, _, rfl⟩, -⟩ := hn
    refine rg_call (f := 72) (args := #[.slice A D.length c, .int .i64 (y : Int)]) (by simp [go_sem, e1, e2]) rfl ?_
    refine (HP.out _ hch y HY.out).mono ?_
    rintro e w6 ⟨rfl, hc6⟩
    exact ⟨_, rfl, hch.trans hc6, hc6, rfl⟩
  · rintro kc m a w5 hkc hch hm hn
    obtain ⟨⟨_, e1, _, rfl⟩, -⟩ := hn
    exact rg_val (v := .int .i64 (stampOf D y)) (by simp [execOp, go_sem, e1, run_stamp, stampOf]) rfl hch (Chg.refl _ _) rfl
  · rintro kc m a w5 hkc hch hm hn
    obtain ⟨⟨_, e1, _, rfl⟩, ⟨_, e2, _, rfl⟩, -⟩ := hn
    refine rg_call (f := 114) (args := #[.int .i64 (stampOf D x), .int .i64 (stampOf D y)]) (by simp [go_sem, e1, e2]) rfl ?_
    refine (cmpInt_any _ _ _).mono ?_
    rintro e w6 ⟨rfl, hc6⟩
    exact ⟨_, rfl, hch.trans hc6, hc6, rfl⟩
  · rintro kc m a w5 hkc hch hm hn
    obtain ⟨⟨_, e1, _, rfl⟩, -⟩ := hn
    exact rg_val (v := .int .i64 (cmp3 (stampOf D x) (stampOf D y))) (by simp [execOp, go_sem, e1]) rfl hch (Chg.refl _ _) rfl
  rintro m w2 hc2
  simp only [AllVals]
  rintro v0 _ p0 v1 _ p1 v2 _ p2 v3 _ p3 v4 _ p4 v5 _ p5 v6 _ p6 v7 _ p7 v8 _ p8 v9 _ p9
  obtain rfl := p9
  clear p0 p1 p2 p3 p4 p5 p6 p7 p8
  simp only [Act.put, List.setIfInBounds_toArray, List.set_cons_succ, List.set_cons_zero]
  have HC2 := Lib.hid hc2
  clear hc2
  go_wp2
  go_ret
  exact ⟨rfl, HC2.out⟩
theorem cmpP_dev {A : Option Addr} {c : Nat} {D : List Bk} {B g E : Nat} {w : World} (hr : DevR (fun i => i < E) w A D) (hd : DvOk D) (cd : w.cell? ⟨B, 0, none⟩ = some (.slice A D.length c)) (hB : B ≠ g) (hE : E ≤ g) :
    CmpP w g (.pointer (some ⟨B, 0, none⟩)) (stampOf D) (4 * D.length) := fun W hW x y hx hy =>
  closure_any _ A c D B x y W (hr.chg hW (fun i h1 h2 => by have : i = g := h2; omega)) hd (hW.cell cd hB) hx hy
set_option maxRecDepth 100000 in
set_option maxHeartbeats 4000000 in
theorem SortStable_nil (A : Option Addr) (c : Nat) (fv : Value) (w : World) :
    Calls Try.prog 112 #[.slice A 0 c, fv] w fun e w' => e = .returned (.tuple #[]) ∧ Chg NoB w w' := by
  have hi : ∀ wq, Calls Try.prog 166 #[.slice A 0 c, .int .i64 0, .int .i64 0, fv] wq fun e w' => e = .returned (.tuple #[]) ∧ wq = w' := fun wq => by
    go_enter Try.func166, Try.ntmps166
    go_wp2_with fail
    refine wp_loop_rounds 1 ?_
    refine one_round ?_
    go_wp2
    go_end0
    exact ⟨rfl, rfl⟩
  have hs : ∀ wq, Calls Try.prog 153 #[.slice A 0 c, .int .i64 0, fv] wq fun e w' => e = .returned (.tuple #[]) ∧ wq = w' := fun wq => by
    have HI := Lib.hid hi
    clear hi
    go_enter Try.func153, Try.ntmps153
    go_wp2_with fail
    refine wp_loop_rounds 1 ?_
    refine one_round ?_
    go_wp2_with fail
    refine (HI.out _).mono ?_
    rintro e w1 ⟨rfl, rfl⟩
    go_wp2_with fail
    refine wp_loop_rounds 1 ?_
    refine one_round ?_
    go_wp2
    go_end0
    exact ⟨rfl, rfl⟩
  have HS := Lib.hid hs
  clear hi hs
  go_enter Try.func112, Try.ntmps112
  go_wp2_with fail
  refine (HS.out _).mono ?_
  rintro e w1 ⟨rfl, rfl⟩
  go_wp2
  go_end0
  exact ⟨rfl, Chg.refl _ _⟩
set_option maxRecDepth 100000 in
set_option maxHeartbeats 4000000 in
theorem iPagesSince_any (F : Nat → Prop) (A : Option Addr) (c : Nat) (D : List Bk) (s : Int) (w : World) (h : DevR F w A D) :
    Calls Try.prog 54 #[.slice A D.length c, .int .i64 s] w (PsP w D s) := by
  obtain ⟨i0, hi, hz0, hz1, hz2⟩ := info_parts info_int
  have hca := (Chg.refl NoB w).alloc (.cells #[.slice A D.length c] 23)
  have HCA := Lib.hid hca
  have HB := Lib.hid (Blk.new w 23 #[.slice A D.length c])
  have HR := Lib.hid (show DevR (fun i => i < w.heap.size) _ A D from (h.lt.mono (G := fun i => i < w.heap.size) fun i _ hi => hi.2).new hca)
  have hSZ : (w.alloc (.cells #[.slice A D.length c] 23)).heap.size = w.heap.size + 1 := by simp [World.size_alloc]
  have HSZ := Lib.hid hSZ
  clear h hca hSZ
  by_cases hd : DvOk D
  case neg =>
    have HD := Lib.hid hd
    clear hd
    go_enter Try.func54, Try.ntmps54
    go_wp2_with fail
    refine (iDeviceValid_f _ A c D _ HR.out HD.out).mono ?_
    rintro e w1 ⟨rfl, hc1⟩
    have HC := Lib.hid (HCA.out.trans hc1)
    clear hc1
    go_wp2
    go_ret
    unfold PsP
    rw [show pagesSince D s = [] from if_neg HD.out]
    exact ⟨none, 0, rfl, OwnS.empty _ _ _ _ _ _, HC.out⟩
  have HD := Lib.hid hd
  have h1 := hd.1.1
  have h2 := hd.1.2
  clear hd
  go_enter Try.func54, Try.ntmps54
  go_wp2_with fail
  refine (iDeviceValid_t _ A c D _ HR.out HD.out).mono ?_
  rintro e w1 ⟨rfl, hc1⟩
  have HC := Lib.hid (HCA.out.trans hc1)
  have hbx := HB.out.chg hc1 (fun x => x)
  have HB1 := Lib.hid hbx
  have HR1 := Lib.hid (HR.out.new hc1)
  have x0 : w1.cell? ⟨w.heap.size, 0, none⟩ = some (.slice A D.length c) := (hbx.cell _).trans rfl
  have HS1 := Lib.hid (show w.heap.size + 1 ≤ w1.heap.size by have := hc1.size; have := HSZ.out; omega)
  clear hc1 hbx
  go_wp2_with fail
  go_loopw [5, 14] (fun v i wr => ∃ k : Nat, k ≤ 4 * D.length ∧ i = .int .i64 k ∧ Chg NoB w1 wr ∧ wr.ownsRow w1.heap.size 3 1 v (since D s k).length (rowc (since D s k))) (fun _ i _ => 4 * D.length - (intOf i).toNat)
  case atStart => exact ⟨0, Nat.zero_le _, rfl, Chg.refl _ _, World.ownsRow_nil _ _ _ _⟩
  case round =>
    obtain ⟨k, hk, rfl, hch, how⟩ := hrel
    have x1 := hch.cell x0 (fun x => x)
    have HCH := Lib.hid hch
    have HO := Lib.hid how
    by_cases hlt : k < 4 * D.length
    case neg =>
      have hlt' : ¬ ((k : Int) < 4 * (D.length : Int)) := by omega
      obtain rfl : k = 4 * D.length := by omega
      have HPS := Lib.hid (show pagesSince D s = srt (stampOf D) (since D s (4 * D.length)) from if_pos HD.out)
      have HL := Lib.hid (show (since D s (4 * D.length)).length ≤ 48 by have := since_len D s (4 * D.length); omega)
      obtain ⟨A', c', hv, ho⟩ := OwnS.of_row how
      subst hv
      clear how hch HO
      obtain ⟨L, hLe⟩ : ∃ L, since D s (4 * D.length) = L := ⟨_, rfl⟩
      have HLP := Lib.hid (show L.Pairwise (· < ·) by rw [← hLe]; exact since_pair _ _ _)
      have HLM := Lib.hid (show ∀ x ∈ L, x < 4 * D.length from fun x hx => since_lt (by rw [hLe]; exact hx))
      rw [hLe] at HPS HL ho ⊢
      clear hLe
      rcases ho.2 with ⟨h0, _⟩ | ⟨g, rest, rfl, hg, hgE, hbl⟩
      · have hL0 : L = [] := List.eq_nil_of_length_eq_zero h0
        subst hL0
        clear ho h0
        go_wp2_with fail
        refine (SortStable_nil A' c' _ _).mono ?_
        rintro e w2 ⟨rfl, hc2⟩
        have HC2 := Lib.hid (HC.out.trans (HCH.out.trans hc2))
        clear hc2
        go_wp2
        go_ret
        unfold PsP
        rw [HPS.out, srt_nil]
        exact ⟨A', c', rfl, OwnS.empty _ _ _ _ _ _, HC2.out⟩
      · have HNC := Lib.hid ho.1
        have HBL := Lib.hid hbl
        have HG := Lib.hid (show w.heap.size + 1 ≤ g by have := HS1.out; omega)
        have HCP := Lib.hid (show CmpP wr g (.pointer (some ⟨w.heap.size, 0, none⟩)) (stampOf D) (4 * D.length) from cmpP_dev (HR1.out.new HCH.out) HD.out x1 (by have := HG.out; omega) (by have := HG.out; omega))
        clear ho hbl hg hgE
        go_wp2_with fail
        refine (SortStable_any _ g c' _ (stampOf D) (4 * D.length) L rest _ rfl HL.out HBL.out HLM.out HLP.out HCP.out).mono ?_
        rintro e w2 ⟨rfl, hc2, hb2⟩
        have HC2 := Lib.hid ((HC.out.trans HCH.out).own hc2 (by have := HG.out; omega))
        have HB2 := Lib.hid hb2
        clear hc2 hb2
        go_wp2
        go_ret
        unfold PsP
        rw [HPS.out, srt_length]
        exact ⟨_, c', rfl, ⟨HNC.out, .inr ⟨g, rest, rfl, by have := HG.out; omega, Blk.lt HB2.out, HB2.out⟩⟩, HC2.out⟩
    have hi0 : (0 : Int) ≤ (k : Int) := Int.natCast_nonneg _
    have hi1 : (k : Int) < 4 * (D.length : Int) := by omega
    have hyl := since_len D s k
    clear hch how
    go_wp2_with fail
    refine (pageAt_any _ A c D k _ (HR1.out.new HCH.out) HD.out hlt).mono ?_
    rintro e w2 ⟨rfl, hc2⟩
    have HC2 := Lib.hid (HCH.out.trans hc2)
    have HO2 := Lib.hid (own_chg HO.out hc2 (fun _ _ x => x))
    have HSZ2 := Lib.hid (show w1.heap.size ≤ w2.heap.size from HC2.out.size)
    have HSG := Lib.hid (show sinceGood D s k = ((pgAt D k).full && decide (s < (pgAt D k).stamp)) from rfl)
    clear hc2 x1
    cases hf : (pgAt D k).full with
    | false =>
      have HN := Lib.hid (since_no (by rw [HSG.out, hf]; rfl))
      go_wp2
      go_roundw
      case rel => exact ⟨k + 1, by omega, by go_num, HC2.out.alloc _, by rw [HN.out]; exact HO2.out.alloc _⟩
      case measure => simp [intOf]; omega
    | true =>
      by_cases hs : s < (pgAt D k).stamp
      · have HN := Lib.hid (since_yes (by rw [HSG.out, hf, decide_eq_true hs]; rfl))
        have hs' : (pgAt D k).stamp > s := hs
        go_wp2_with (at_builtin; refine wpList_append_own _ rfl (.tmp 28) (.tmp 30) _ rfl w1.heap.size 3 i0 (.int .i64 0) 1 8 Try.underlying24 hi hz0 hz1 hz2 rfl (by decide) _ _ _ rfl ((HO2.out.alloc _).alloc _) ⟨w2.heap.size + 1, 0, none⟩ 1 1 [.int .i64 (k : Int)] rfl rfl (cells_new2 _ _ _ _) (by simp [Value.oneCell']) (by simp only [maxLen]; omega) (by omega) (by simp; have := HSZ2.out; omega) ?_; intro v' w5 hown' hgrow _)
        go_roundw
        case rel =>
          refine ⟨k + 1, by omega, by go_num, chg_grown ((HO2.out.alloc _).alloc _) hgrow ((HC2.out.alloc _).alloc _) (Nat.le_refl _), ?_⟩
          rw [HN.out, List.length_append, rowc_append]
          exact hown'
        case measure => simp [intOf]; omega
      · have HN := Lib.hid (since_no (by rw [HSG.out, hf, decide_eq_false hs]; rfl))
        have hs' : ¬ (pgAt D k).stamp > s := hs
        go_wp2
        go_roundw
        case rel => exact ⟨k + 1, by omega, by go_num, HC2.out.alloc _, by rw [HN.out]; exact HO2.out.alloc _⟩
        case measure => simp [intOf]; omega
end Go.Proofs.Ytpiojofmflfkkaa
/- PagesSince of the reference. -/
namespace Go.Proofs.Ytpiojofmflfkkaa
open Go.RowKit
/-- The facts of a region that lays anew what stands ahead of p, x, and what stands behind. -/
structure ApdI (W : World) (x : Nat) (L : List Nat) (p : Nat) (m : Nat → Option Value) (w : World) : Prop where
  chg : Chg NoB W w
  o1 : m 7 = none → m 11 = none
  o2 : m 4 = none → m 7 = none
  s0 : m 4 = none → ∀ v, m 0 = some v → ∃ g0, v = .slice (some ⟨g0, 0, none⟩) 0 0 ∧ W.heap.size ≤ g0 ∧ Blk w g0 3 #[]
  s4 : m 7 = none → ∀ v, m 4 = some v → w.ownsRow W.heap.size 3 1 v p (rowc (L.take p))
  s6 : m 7 = none → ∀ v, m 6 = some v → ∃ g6, v = .slice (some ⟨g6, 0, none⟩) 1 1 ∧ W.heap.size ≤ g6 ∧ Blk w g6 3 #[.int .i64 (x : Int)]
  s7 : m 11 = none → ∀ v, m 7 = some v → w.ownsRow W.heap.size 3 1 v (p + 1) (rowc (L.take p) ++ [.int .i64 (x : Int)])
  s11 : ∀ v, m 11 = some v → w.ownsRow W.heap.size 3 1 v (p + 1 + (L.length - p)) ((rowc (L.take p) ++ [.int .i64 (x : Int)]) ++ rowc (L.drop p))
  s12 : ∀ v, m 12 = some v → m 11 = some v
section
variable {W w w' : World} {x p : Nat} {L : List Nat} {m : Nat → Option Value}
theorem updz_ne {m : Nat → Option Value} {i k : Nat} {v : Value} (h : k ≠ i) : upd m i v k = m k := by unfold upd; rw [if_neg h]
theorem updz_eq {m : Nat → Option Value} {i : Nat} {v : Value} : upd m i v i = some v := by unfold upd; rw [if_pos rfl]
theorem ApdI.start (W : World) (x : Nat) (L : List Nat) (p : Nat) : ApdI W x L p (fun _ => none) W.drew :=
  ⟨(Chg.refl NoB W).drew, fun _ => rfl, fun _ => rfl, fun _ _ h => by (cases h), fun _ _ h => by (cases h), fun _ _ h => by (cases h), fun _ _ h => by (cases h), fun _ h => by (cases h), fun _ h => by (cases h)⟩
theorem ApdI.pure (h : ApdI W x L p m w) {i : Nat} (v : Value) (h0 : i ≠ 0) (h4 : i ≠ 4) (h6 : i ≠ 6) (h7 : i ≠ 7) (h11 : i ≠ 11) (h12 : i ≠ 12) : ApdI W x L p (upd m i v) w := by
  have e0 := updz_ne (m := m) (v := v) h0.symm; have e4 := updz_ne (m := m) (v := v) h4.symm; have e6 := updz_ne (m := m) (v := v) h6.symm
  have e7 := updz_ne (m := m) (v := v) h7.symm; have e11 := updz_ne (m := m) (v := v) h11.symm; have e12 := updz_ne (m := m) (v := v) h12.symm
  exact ⟨h.chg, by rw [e7, e11]; exact h.o1, by rw [e4, e7]; exact h.o2, by rw [e4, e0]; exact h.s0, by rw [e7, e4]; exact h.s4, by rw [e7, e6]; exact h.s6, by rw [e11, e7]; exact h.s7, by rw [e11]; exact h.s11, by rw [e12, e11]; exact h.s12⟩
theorem ApdI.keep (h : ApdI W x L p m w) (hc : Chg NoB w w') : ApdI W x L p m w' :=
  ⟨h.chg.trans hc, h.o1, h.o2, fun h1 v h2 => by obtain ⟨g, a, b, c⟩ := h.s0 h1 v h2; exact ⟨g, a, b, c.chg hc (fun x => x)⟩, fun h1 v h2 => own_chg (h.s4 h1 v h2) hc (fun _ _ x => x),
    fun h1 v h2 => by obtain ⟨g, a, b, c⟩ := h.s6 h1 v h2; exact ⟨g, a, b, c.chg hc (fun x => x)⟩, fun h1 v h2 => own_chg (h.s7 h1 v h2) hc (fun _ _ x => x), fun v h2 => own_chg (h.s11 v h2) hc (fun _ _ x => x), h.s12⟩
theorem ApdI.al0 (h : ApdI W x L p m w) : ApdI W x L p (upd m 0 (.slice (some ⟨w.heap.size, 0, none⟩) 0 0)) (w.alloc (.cells #[] 3)) := by
  have k := h.keep ((Chg.refl NoB w).alloc (.cells #[] 3))
  refine ⟨k.chg, k.o1, k.o2, fun h1 v h2 => ?_, k.s4, k.s6, k.s7, k.s11, k.s12⟩
  rw [updz_eq] at h2
  cases h2
  exact ⟨_, rfl, h.chg.size, Blk.new _ _ _⟩
theorem ApdI.al6 (h : ApdI W x L p m w) : ApdI W x L p (upd m 6 (.slice (some ⟨w.heap.size, 0, none⟩) 1 1)) (w.alloc (.cells #[.int .i64 (x : Int)] 3)) := by
  have k := h.keep ((Chg.refl NoB w).alloc (.cells #[.int .i64 (x : Int)] 3))
  refine ⟨k.chg, k.o1, k.o2, k.s0, k.s4, fun h1 v h2 => ?_, k.s7, k.s11, k.s12⟩
  rw [updz_eq] at h2
  cases h2
  exact ⟨_, rfl, h.chg.size, Blk.new _ _ _⟩
theorem ApdI.st4 (h : ApdI W x L p m w) (h4 : m 4 = none) (hc : Chg NoB w w') {v : Value} (ho : w'.ownsRow W.heap.size 3 1 v p (rowc (L.take p))) : ApdI W x L p (upd m 4 v) w' := by
  have k := h.keep hc
  have h7 := h.o2 h4
  have h11 := h.o1 h7
  refine ⟨k.chg, k.o1, fun _ => h7, fun h1 => (by rw [updz_eq] at h1; cases h1), fun _ u hu => (by rw [updz_eq] at hu; cases hu; exact ho), k.s6, k.s7, k.s11, k.s12⟩
theorem ApdI.st7 (h : ApdI W x L p m w) (h7 : m 7 = none) {v4 v : Value} (h4 : m 4 = some v4) (hg : w.grownBy w' v4.ownBlock) (ho : w'.ownsRow W.heap.size 3 1 v (p + 1) (rowc (L.take p) ++ [.int .i64 (x : Int)])) : ApdI W x L p (upd m 7 v) w' := by
  have h11 := h.o1 h7
  have hc := chg_grown (h.s4 h7 v4 h4) hg h.chg (Nat.le_refl _)
  have e4 : upd m 7 v 4 = some v4 := by rw [updz_ne (by decide)]; exact h4
  refine ⟨hc, fun h1 => (by rw [updz_eq] at h1; cases h1), fun h1 => (by rw [e4] at h1; cases h1), fun h1 => (by rw [e4] at h1; cases h1), fun h1 => (by rw [updz_eq] at h1; cases h1), fun h1 => (by rw [updz_eq] at h1; cases h1), fun _ u hu => (by rw [updz_eq] at hu; cases hu; exact ho), fun u hu => ?_, h.s12⟩
  have hu' : m 11 = some u := hu
  rw [h11] at hu'; cases hu'
theorem ApdI.st11 (h : ApdI W x L p m w) (h11 : m 11 = none) {v7 v : Value} (h7 : m 7 = some v7) (hg : w.grownBy w' v7.ownBlock) (ho : w'.ownsRow W.heap.size 3 1 v (p + 1 + (L.length - p)) ((rowc (L.take p) ++ [.int .i64 (x : Int)]) ++ rowc (L.drop p))) : ApdI W x L p (upd m 11 v) w' := by
  have hc := chg_grown (h.s7 h11 v7 h7) hg h.chg (Nat.le_refl _)
  have e7 : upd m 11 v 7 = some v7 := by rw [updz_ne (by decide)]; exact h7
  have n4 : m 4 ≠ none := fun e => by have := h.o2 e; rw [h7] at this; cases this
  refine ⟨hc, fun h1 => (by rw [e7] at h1; cases h1), fun h1 => absurd h1 n4, fun h1 => absurd h1 n4, fun h1 => (by rw [e7] at h1; cases h1), fun h1 => (by rw [e7] at h1; cases h1), fun h1 => (by rw [updz_eq] at h1; cases h1), fun u hu => (by rw [updz_eq] at hu; cases hu; exact ho), fun u hu => ?_⟩
  have hu' : m 12 = some u := hu
  have := h.s12 u hu'
  rw [h11] at this; cases this
theorem ApdI.st12 (h : ApdI W x L p m w) {v : Value} (h11 : m 11 = some v) : ApdI W x L p (upd m 12 v) w := by
  refine ⟨h.chg, h.o1, h.o2, h.s0, h.s4, h.s6, h.s7, h.s11, fun u hu => ?_⟩
  rw [updz_eq] at hu
  cases hu
  exact h11
end
theorem RowB.rdTake {w : World} {g : Nat} {rest : List Value} {L : List Nat} (h : RowB w g rest L) (p : Nat) : Rd (· = g) w (some ⟨g, 0, none⟩) (rowc (L.take p)) := fun k v hk => by
  refine Blk.rd h k v ?_
  have e : rowc L = rowc (L.take p) ++ rowc (L.drop p) := by rw [← rowc_append, List.take_append_drop]
  rw [e, List.append_assoc, List.getElem?_append_left (List.getElem?_eq_some_iff.1 hk).1]
  exact hk
theorem RowB.rdDrop {w : World} {g : Nat} {rest : List Value} {L : List Nat} (h : RowB w g rest L) (p : Nat) (hp : p ≤ L.length) : Rd (· = g) w (some ⟨g, p, none⟩) (rowc (L.drop p)) := fun k v hk => by
  refine ⟨_, rfl, rfl, ?_⟩
  have e1 : (⟨g, p, none⟩ : Addr).add k = ⟨g, p + k, none⟩ := by unfold Addr.add; split <;> simp_all
  have e : rowc L = rowc (L.take p) ++ rowc (L.drop p) := by rw [← rowc_append, List.take_append_drop]
  have hl : (rowc (L.take p)).length = p := by rw [rowc_length, List.length_take]; omega
  rw [e1, Blk.cell h, e, List.append_assoc]
  have hk' := (List.getElem?_eq_some_iff.1 hk).1
  simp only [List.getElem?_toArray]
  rw [List.getElem?_append_right (by omega), hl, Nat.add_sub_cancel_left, List.getElem?_append_left hk']
  exact hk
theorem since_ins {D : List Bk} {s : Int} {k p : Nat} (h : sinceGood D s k = true) (hp : p ≤ (srt (stampOf D) (since D s k)).length)
    (h1 : p = 0 ∨ stampOf D ((srt (stampOf D) (since D s k)).getD (p - 1) 0) ≤ stampOf D k) (h2 : p = (srt (stampOf D) (since D s k)).length ∨ stampOf D k < stampOf D ((srt (stampOf D) (since D s k)).getD p 0)) :
    (srt (stampOf D) (since D s k)).take p ++ k :: (srt (stampOf D) (since D s k)).drop p = srt (stampOf D) (since D s (k + 1)) := by
  rw [ins_right (srt_sorted _) (fun x hx _ => Nat.le_of_lt (since_lt (srt_mem.1 hx))) hp (h1.imp id (fun h => Int.not_lt.2 h)) h2, srt_left, since_yes h]
set_option maxRecDepth 100000 in
set_option maxHeartbeats 4000000 in
theorem sPagesSince_any (F : Nat → Prop) (A : Option Addr) (c : Nat) (D : List Bk) (s : Int) (w : World) (h : DevR F w A D) (hs : Small D) (hm : D.length ≤ 1048576) :
    Calls Try.prog 110 #[.slice A D.length c, .int .i64 s] w (PsP w D s) := by
  obtain ⟨i0, hi, hz0, hz1, hz2⟩ := info_parts info_int
  have hca := (Chg.refl NoB w).alloc (.cells #[] 3)
  have HCA := Lib.hid hca
  have HB := Lib.hid (Blk.new w 3 #[])
  have HR0 := Lib.hid (show DevR (fun i => i < w.heap.size) w A D from h.lt.mono fun i _ hi => hi.2)
  have hSZ : (w.alloc (.cells #[] 3)).heap.size = w.heap.size + 1 := by simp [World.size_alloc]
  have HSZ := Lib.hid hSZ
  have HS := Lib.hid hs
  clear h hca hSZ
  by_cases hd : DvOk D
  case neg =>
    have HD := Lib.hid hd
    have hl0 := hs.1
    clear hd hs
    by_cases hl : 0 < D.length
    · have hl' : (0 : Int) < 4 * (D.length : Int) := by omega
      go_enter Try.func110, Try.ntmps110
      go_wp2_with fail
      refine wp_loop_rounds 1 ?_
      refine one_round ?_
      go_wp2_with fail
      refine (sDeviceValid_f _ A c D _ (HR0.out.new HCA.out) HS.out HD.out).mono ?_
      rintro e w1 ⟨rfl, hc1⟩
      have HC := Lib.hid (HCA.out.trans hc1)
      clear hc1
      go_wp2
      go_ret
      unfold PsP
      rw [show pagesSince D s = [] from if_neg HD.out]
      exact ⟨_, 0, rfl, OwnS.empty _ _ _ _ _ _, HC.out⟩
    · have hl' : ¬ ((0 : Int) < 4 * (D.length : Int)) := by omega
      go_enter Try.func110, Try.ntmps110
      go_wp2_with fail
      refine wp_loop_rounds 1 ?_
      refine one_round ?_
      go_wp2
      go_ret
      unfold PsP
      rw [show pagesSince D s = [] from if_neg HD.out]
      exact ⟨_, 0, rfl, OwnS.empty _ _ _ _ _ _, HCA.out⟩
  have HD := Lib.hid hd
  have h1 := hd.1.1
  have h2 := hd.1.2
  clear hd hs
  go_enter Try.func110, Try.ntmps110
  go_wp2_with fail
  go_loopw [5, 6] (fun v i wr => ∃ (k g cap : Nat) (rest : List Value), v = .slice (some ⟨g, 0, none⟩) (srt (stampOf D) (since D s k)).length cap ∧ k ≤ 4 * D.length ∧ i = .int .i64 k ∧ Chg NoB w wr ∧ w.heap.size ≤ g ∧ (srt (stampOf D) (since D s k)).length ≤ cap ∧ RowB wr g rest (srt (stampOf D) (since D s k))) (fun _ i _ => 4 * D.length - (intOf i).toNat)
  case atStart =>
    have e0 : srt (stampOf D) (since D s 0) = [] := srt_nil _
    exact ⟨0, w.heap.size, 0, [], by rw [e0]; rfl, Nat.zero_le _, rfl, HCA.out, Nat.le_refl _, by rw [e0]; exact Nat.le_refl _, by rw [e0]; exact HB.out⟩
  case round =>
    obtain ⟨k, g, cap, rest, rfl, hk, rfl, hch, hg, hcap, hbl⟩ := hrel
    have HCH := Lib.hid hch
    have HBL := Lib.hid hbl
    have HG := Lib.hid hg
    have HCAP := Lib.hid hcap
    have HGL := Lib.hid (show g < wr.heap.size from hbl.lt)
    have hll : (srt (stampOf D) (since D s k)).length ≤ k := by rw [srt_length]; exact since_len D s k
    obtain ⟨L, hL⟩ : ∃ L, srt (stampOf D) (since D s k) = L := ⟨_, rfl⟩
    have HL := Lib.hid hL
    rw [hL] at HBL HCAP hll ⊢
    have HLM := Lib.hid (show ∀ x ∈ L, x < 4 * D.length from fun x hx => by rw [← hL, srt_mem] at hx; have := since_lt hx; omega)
    clear hL hch hg hcap hbl
    by_cases hlt : k < 4 * D.length
    case neg =>
      have hlt' : ¬ ((k : Int) < 4 * (D.length : Int)) := by omega
      obtain rfl : k = 4 * D.length := by omega
      have HPS := Lib.hid (show pagesSince D s = L by rw [← HL.out]; exact if_pos HD.out)
      go_wp2
      go_ret
      unfold PsP
      rw [HPS.out]
      exact ⟨_, cap, rfl, ⟨HCAP.out, .inr ⟨g, rest, rfl, HG.out, HGL.out, HBL.out⟩⟩, HCH.out⟩
    have hi0 : (0 : Int) ≤ (k : Int) := Int.natCast_nonneg _
    have hi1 : (k : Int) < 4 * (D.length : Int) := by omega
    go_wp2_with fail
    refine (sDeviceValid_t _ A c D _ (HR0.out.new HCH.out) HD.out).mono ?_
    rintro e w1 ⟨rfl, hc1⟩
    have HC1 := Lib.hid (HCH.out.trans hc1)
    have HB1 := Lib.hid (HBL.out.chg hc1 (fun x => x))
    have HP := Lib.hid (readPage_yes HD.out hlt)
    clear hc1
    go_wp2_with fail
    refine (sReadPage_any _ A c D (k : Int) _ (HR0.out.new HC1.out) HS.out).mono ?_
    rw [HP.out]
    rintro e w2 ⟨rfl, hc2⟩
    have HC2 := Lib.hid (HC1.out.trans hc2)
    have HB2 := Lib.hid (HB1.out.chg hc2 (fun x => x))
    have HSG := Lib.hid (show sinceGood D s k = ((pgAt D k).full && decide (s < (pgAt D k).stamp)) from rfl)
    clear hc2
    cases hf : (pgAt D k).full with
    | false =>
      have HN := Lib.hid (since_no (by rw [HSG.out, hf]; rfl))
      go_wp2
      go_roundw
      case rel => exact ⟨k + 1, g, cap, rest, by rw [HN.out, HL.out], by omega, by go_num, HC2.out.alloc _, HG.out, by rw [HN.out, HL.out]; exact HCAP.out, by rw [HN.out, HL.out]; exact Blk.chg HB2.out ((Chg.refl NoB _).alloc _) (fun x => x)⟩
      case measure => simp [intOf]; omega
    | true =>
      by_cases hs : s < (pgAt D k).stamp
      case neg =>
        have HN := Lib.hid (since_no (by rw [HSG.out, hf, decide_eq_false hs]; rfl))
        have hs' : (pgAt D k).stamp ≤ s := by omega
        go_wp2
        go_roundw
        case rel => exact ⟨k + 1, g, cap, rest, by rw [HN.out, HL.out], by omega, by go_num, HC2.out.alloc _, HG.out, by rw [HN.out, HL.out]; exact HCAP.out, by rw [HN.out, HL.out]; exact Blk.chg HB2.out ((Chg.refl NoB _).alloc _) (fun x => x)⟩
        case measure => simp [intOf]; omega
      have HGD := Lib.hid (show sinceGood D s k = true by rw [HSG.out, hf, decide_eq_true hs]; rfl)
      have hs' : ¬ (pgAt D k).stamp ≤ s := by omega
      have HK := Lib.hid (show stampOf D k = (pgAt D k).stamp from rfl)
      have hca := (Chg.refl NoB w2).alloc (.cells #[.bool true, .int .i64 (pgAt D k).file, .int .i64 (pgAt D k).place, .int .i64 (pgAt D k).value, .int .i64 (pgAt D k).stamp] 80)
      have HB3 := Lib.hid (HB2.out.chg hca (fun x => x))
      have HC3 := Lib.hid (HC2.out.trans hca)
      have HX3 := Lib.hid (Blk.new w2 80 #[.bool true, .int .i64 (pgAt D k).file, .int .i64 (pgAt D k).place, .int .i64 (pgAt D k).value, .int .i64 (pgAt D k).stamp])
      clear hca hs
      go_wp2_with fail
      obtain ⟨w3, hw3⟩ : ∃ w3, w2.alloc (.cells #[.bool true, .int .i64 (pgAt D k).file, .int .i64 (pgAt D k).place, .int .i64 (pgAt D k).value, .int .i64 (pgAt D k).stamp] 80) = w3 := ⟨_, rfl⟩
      obtain ⟨P0, hP0⟩ : ∃ P0, w2.heap.size = P0 := ⟨_, rfl⟩
      rw [hw3] at HB3 HC3 HX3
      rw [hP0] at HX3
      rw [hw3, hP0]
      obtain ⟨x, hx⟩ : ∃ x, stampOf D k = x := ⟨_, rfl⟩
      have HKX := Lib.hid hx
      rw [← HK.out, hx] at HX3
      clear hw3 hP0 hx
      go_loopw [9] (fun v wr => ∃ p : Nat, v = .int .i64 (p : Int) ∧ p ≤ L.length ∧ Hid (p = L.length ∨ x < stampOf D (L.getD p 0)) ∧ Chg NoB w3 wr) (fun v _ => (intOf v).toNat)
      case atStart => exact ⟨L.length, rfl, Nat.le_refl _, Lib.hid (.inl rfl), Chg.refl _ _⟩
      case round =>
        obtain ⟨p, rfl, hp, HPX, hch⟩ := hrel
        have HC4 := Lib.hid (HC3.out.trans hch)
        have HB4 := Lib.hid (HB3.out.chg hch (fun x => x))
        have hbx := HX3.out.chg hch (fun x => x)
        have x4 := hbx.cell 4
        replace x4 := x4.trans (show _ = some (Value.int .i64 x) from rfl)
        have HH := Lib.hid hch
        clear hbx hch
        by_cases hp0 : p = 0
        · subst hp0
          have HL2 := Lib.hid (show L.take 0 ++ k :: L.drop 0 = srt (stampOf D) (since D s (k + 1)) by
            have := since_ins (p := 0) HGD.out (Nat.zero_le _) (.inl rfl) (by rw [HL.out]; rcases HPX.out with q | q; exact .inl q; rw [← HKX.out] at q; exact .inr q)
            rw [HL.out] at this; exact this)
          clear x4
          go_wp2_with fail
          have hlc : L.length ≤ cap := HCAP.out
          obtain ⟨AD, hAD⟩ : ∃ AD : Addr, AD = if cap = 0 then ⟨g, 0, none⟩ else ⟨g, 0, none⟩ := ⟨_, rfl⟩
          have HAD := Lib.hid (show Rd (· = g) wr (some AD) (rowc (L.drop 0)) from by
            rw [hAD]; split
            · rename_i hh; rw [List.drop_of_length_le (by omega)]; exact Rd.nil _ _ _
            · exact RowB.rdDrop HB4.out 0 hp)
          have HTK := Lib.hid (RowB.rdTake HB4.out 0)
          have hpc : 0 ≤ cap := by omega
          have hpl : 0 ≤ L.length := hp
          refine wp_region_rs (gl := []) (WInv := fun _ m w5 => ApdI wr k L 0 m w5) (R := fun _ _ => True) (Post := PV [none, some (.slice (some ⟨g, 0, none⟩) L.length cap), some (.int .i64 ((0 : Nat) : Int)), some (.slice (some ⟨g, 0, none⟩) 0 cap), none, some (.int .i64 (k : Int)), none, none, some (.slice (some ⟨g, 0, none⟩) L.length cap), some (.int .i64 ((0 : Nat) : Int)), some (.slice (some AD) (L.length - 0) (cap - 0)), none, none]) (by kernel_rfl) (by kernel_rfl) (pv_guard (by intro p hp; cases hp)) (fun _ _ _ _ h _ _ => h) (fun _ _ _ _ h _ => h) (ApdI.start _ _ _ _) ⟨?_, ?_, ?_, ?_, ?_, ?_, ?_, ?_, ?_, ?_, ?_, ?_, ?_, trivial⟩ ?_
          · rintro kc m a w5 hkc hch hm hn
            exact rg_val (v := .slice (some ⟨w5.heap.size, 0, none⟩) 0 0) (by simp [execOp, go_sem]) rfl hch.al0 trivial trivial
          · rintro kc m a w5 hkc hch hm hn
            obtain ⟨e1, -⟩ := hn
            replace e1 : a.tmps[5]?.getD undef = .slice (some ⟨g, 0, none⟩) L.length cap := e1
            exact rg_val (v := .slice (some ⟨g, 0, none⟩) L.length cap) (by simp [execOp, go_sem, e1]) rfl (hch.pure _ (by decide) (by decide) (by decide) (by decide) (by decide) (by decide)) trivial rfl
          · rintro kc m a w5 hkc hch hm hn
            obtain ⟨e1, -⟩ := hn
            replace e1 : a.tmps[9]?.getD undef = .int .i64 ((0 : Nat) : Int) := e1
            exact rg_val (v := .int .i64 ((0 : Nat) : Int)) (by simp [execOp, go_sem, e1]) rfl (hch.pure _ (by decide) (by decide) (by decide) (by decide) (by decide) (by decide)) trivial rfl
          · rintro kc m a w5 hkc hch hm hn
            obtain ⟨⟨_, e1, _, rfl⟩, ⟨_, e2, _, rfl⟩, -⟩ := hn
            exact rg_val (v := .slice (some ⟨g, 0, none⟩) 0 cap) (by simp [execOp, go_sem, e1, e2]) rfl (hch.pure _ (by decide) (by decide) (by decide) (by decide) (by decide) (by decide)) trivial rfl
          · rintro kc m a w5 hkc hch hm hn
            obtain ⟨⟨v0, e1, m0, -⟩, ⟨_, e2, _, rfl⟩, -⟩ := hn
            obtain ⟨g0, rfl, hg0, hb0⟩ := hch.s0 hm v0 m0
            obtain ⟨v', w', hr, h2, h3, _⟩ := run_append_fresh (P := Try.prog) w5 wr.heap.size 24 24 3 i0 (.int .i64 0) 1 8 Try.underlying24 hi hz0 hz1 hz2 rfl (by decide) g0 hg0 hb0 (some ⟨g, 0, none⟩) 0 cap (rowc (L.take 0)) (by rw [rowc_length, List.length_take]; omega) (HTK.out.new hch.chg) (by simp only [maxLen]; omega) (by omega) hch.chg.size
            exact rg_val (v := v') (exec_append (v := .slice (some ⟨g0, 0, none⟩) 0 0) (u := .slice (some ⟨g, 0, none⟩) 0 cap) (.tmp 59) (.tmp 62) _ rfl (by simp [go_sem, e1]) (by simp [go_sem, e2]) hr) rfl (hch.st4 hm h3 h2) trivial trivial
          · rintro kc m a w5 hkc hch hm hn
            obtain ⟨e1, -⟩ := hn
            replace e1 : a.tmps[6]?.getD undef = .int .i64 (k : Int) := e1
            exact rg_val (v := .int .i64 (k : Int)) (by simp [execOp, go_sem, e1]) rfl (hch.pure _ (by decide) (by decide) (by decide) (by decide) (by decide) (by decide)) trivial rfl
          · rintro kc m a w5 hkc hch hm hn
            obtain ⟨⟨_, e1, _, rfl⟩, -⟩ := hn
            exact rg_val (v := .slice (some ⟨w5.heap.size, 0, none⟩) 1 1) (by simp [execOp, go_sem, e1]) rfl hch.al6 trivial trivial
          · rintro kc m a w5 hkc hch hm hn
            obtain ⟨⟨v4, e1, m4, -⟩, ⟨v6, e2, m6, -⟩, -⟩ := hn
            obtain ⟨g6, rfl, hg6, hb6⟩ := hch.s6 hm v6 m6
            obtain ⟨v', w', hr, h2, h3, _⟩ := run_append_rd (P := Try.prog) w5 wr.heap.size 24 24 3 i0 (.int .i64 0) 1 8 Try.underlying24 hi hz0 hz1 hz2 rfl (by decide) v4 0 (rowc (L.take 0)) (hch.s4 hm v4 m4) (some ⟨g6, 0, none⟩) 1 1 [.int .i64 (k : Int)] rfl (Blk.rd (cs := [.int .i64 (k : Int)]) hb6) (by simp [Value.oneCell']) (by simp only [maxLen]; omega) (by omega) hch.chg.size
            exact rg_val (v := v') (exec_append (v := v4) (u := .slice (some ⟨g6, 0, none⟩) 1 1) (.tmp 63) (.tmp 65) _ rfl (by simp [go_sem, e1]) (by simp [go_sem, e2]) hr) rfl (hch.st7 hm m4 h3 h2) trivial trivial
          · rintro kc m a w5 hkc hch hm hn
            obtain ⟨e1, -⟩ := hn
            replace e1 : a.tmps[5]?.getD undef = .slice (some ⟨g, 0, none⟩) L.length cap := e1
            exact rg_val (v := .slice (some ⟨g, 0, none⟩) L.length cap) (by simp [execOp, go_sem, e1]) rfl (hch.pure _ (by decide) (by decide) (by decide) (by decide) (by decide) (by decide)) trivial rfl
          · rintro kc m a w5 hkc hch hm hn
            obtain ⟨e1, -⟩ := hn
            replace e1 : a.tmps[9]?.getD undef = .int .i64 ((0 : Nat) : Int) := e1
            exact rg_val (v := .int .i64 ((0 : Nat) : Int)) (by simp [execOp, go_sem, e1]) rfl (hch.pure _ (by decide) (by decide) (by decide) (by decide) (by decide) (by decide)) trivial rfl
          · rintro kc m a w5 hkc hch hm hn
            obtain ⟨⟨_, e1, _, rfl⟩, ⟨_, e2, _, rfl⟩, -⟩ := hn
            exact rg_val (v := .slice (some AD) (L.length - 0) (cap - 0)) (by simp [execOp, go_sem, e1, e2, hAD]) rfl (hch.pure _ (by decide) (by decide) (by decide) (by decide) (by decide) (by decide)) trivial rfl
          · rintro kc m a w5 hkc hch hm hn
            obtain ⟨⟨v7, e1, m7, -⟩, ⟨_, e2, _, rfl⟩, -⟩ := hn
            obtain ⟨v', w', hr, h2, h3, _⟩ := run_append_rd (P := Try.prog) w5 wr.heap.size 24 24 3 i0 (.int .i64 0) 1 8 Try.underlying24 hi hz0 hz1 hz2 rfl (by decide) v7 (0 + 1) (rowc (L.take 0) ++ [.int .i64 (k : Int)]) (hch.s7 hm v7 m7) (some AD) (L.length - 0) (cap - 0) (rowc (L.drop 0)) (by rw [rowc_length, List.length_drop]; omega) (HAD.out.new hch.chg) (rowc_one _) (by simp only [maxLen]; omega) (by omega) hch.chg.size
            exact rg_val (v := v') (exec_append (v := v7) (u := .slice (some AD) (L.length - 0) (cap - 0)) (.tmp 66) (.tmp 69) _ rfl (by simp [go_sem, e1]) (by simp [go_sem, e2]) hr) rfl (hch.st11 hm m7 h3 h2) trivial trivial
          · rintro kc m a w5 hkc hch hm hn
            obtain ⟨⟨v11, e1, m11, -⟩, -⟩ := hn
            exact rg_val (v := v11) (by simp [execOp, go_sem, e1]) rfl (hch.st12 m11) trivial trivial
          rintro m w6 hai
          simp only [AllVals]
          rintro v0 m0 p0 v1 m1 p1 v2 m2 p2 v3 m3 p3 v4 m4 p4 v5 m5 p5 v6 m6 p6 v7 m7 p7 v8 m8 p8 v9 m9 p9 v10 m10 p10 v11 m11 p11 v12 m12 p12
          have ho := hai.s11 v12 (hai.s12 v12 m12)
          have HC6 := Lib.hid hai.chg
          clear p0 p1 p2 p3 p4 p5 p6 p7 p8 p9 p10 p11 p12 m0 m1 m2 m3 m4 m5 m6 m7 m8 m9 m10 m11 m12
          rw [show 0 + 1 + (L.length - 0) = (srt (stampOf D) (since D s (k + 1))).length by have := congrArg List.length HL2.out; simp at this; omega, show (rowc (L.take 0) ++ [.int .i64 (k : Int)]) ++ rowc (L.drop 0) = rowc (srt (stampOf D) (since D s (k + 1))) by rw [← HL2.out, rowc_append, rowc_cons, List.append_assoc]; rfl] at ho
          have hL2n : 0 < (srt (stampOf D) (since D s (k + 1))).length := by have := congrArg List.length HL2.out; simp at this; omega
          obtain ⟨A9, c9, rfl, hn9, h9⟩ := OwnS.of_row ho
          rcases h9 with ⟨h9, _⟩ | ⟨g9, rest9, rfl, hg9, hE9, hb9⟩
          · omega
          have HB9 := Lib.hid hb9
          have HG9 := Lib.hid (show w.heap.size ≤ g9 by have := HC4.out.size; omega)
          have HN9 := Lib.hid hn9
          clear hai ho hb9 hg9 hE9 hn9 hAD hpc hpl hlc hL2n
          simp only [Act.put, List.setIfInBounds_toArray, List.set_cons_succ, List.set_cons_zero]
          go_wp2
          go_roundw
          case rel => exact ⟨k + 1, g9, c9, rest9, rfl, by omega, by go_num, HC4.out.trans HC6.out, HG9.out, HN9.out, HB9.out⟩
          case measure => simp [intOf]; omega
        obtain ⟨q, rfl⟩ : ∃ q, p = q + 1 := ⟨p - 1, by omega⟩
        have hq1 : (0 : Int) < (q : Int) + 1 := by omega
        have HQL := Lib.hid (show q < L.length by omega)
        have cq := RowB.get HB4.out HQL.out
        have hqn : (q : Int) < (L.length : Int) := by omega
        have HLQ := Lib.hid (HLM.out _ (getD_mem HQL.out))
        obtain ⟨y, hy⟩ : ∃ y, L.getD q 0 = y := ⟨_, rfl⟩
        rw [hy] at cq HLQ
        have HY := Lib.hid hy
        have HPY := Lib.hid (readPage_yes HD.out HLQ.out)
        clear hy
        go_wp2_with fail
        refine (sReadPage_any _ A c D (y : Int) _ (HR0.out.new HC4.out) HS.out).mono ?_
        rw [HPY.out]
        rintro e w5 ⟨rfl, hc5⟩
        have x4' := hc5.cell x4 (fun x => x)
        have HC5 := Lib.hid (HC4.out.trans hc5)
        have HH5 := Lib.hid (HH.out.trans hc5)
        have HB5 := Lib.hid (HB4.out.chg hc5 (fun x => x))
        have HZ5 := Lib.hid (show P0 < w5.heap.size from (World.block_lt_of_cell? _ _ x4'))
        obtain ⟨z, hz⟩ : ∃ z, (pgAt D y).stamp = z := ⟨_, rfl⟩
        have HZ := Lib.hid (show stampOf D y = z from hz)
        have x4a := ((Chg.refl NoB w5).alloc (.cells #[.bool (pgAt D y).full, .int .i64 (pgAt D y).file, .int .i64 (pgAt D y).place, .int .i64 (pgAt D y).value, .int .i64 z] 80)).cell x4' (fun x => x)
        clear hc5 x4 cq
        by_cases hl : z ≤ x
        · have HL2 := Lib.hid (show L.take (q + 1) ++ k :: L.drop (q + 1) = srt (stampOf D) (since D s (k + 1)) by
            have := since_ins (p := q + 1) HGD.out (by rw [HL.out]; exact hp) (.inr (by rw [HL.out, Nat.add_sub_cancel, HY.out, HZ.out, HKX.out]; exact hl)) (by rw [HL.out]; rcases HPX.out with h | h; exact .inl h; rw [← HKX.out] at h; exact .inr h)
            rw [HL.out] at this; exact this)
          have HC7 := Lib.hid (HC5.out.alloc (.cells #[.bool (pgAt D y).full, .int .i64 (pgAt D y).file, .int .i64 (pgAt D y).place, .int .i64 (pgAt D y).value, .int .i64 z] 80))
          have HB7 := Lib.hid (Blk.chg HB5.out ((Chg.refl NoB w5).alloc (.cells #[.bool (pgAt D y).full, .int .i64 (pgAt D y).file, .int .i64 (pgAt D y).place, .int .i64 (pgAt D y).value, .int .i64 z] 80)) (fun x => x))
          go_wp2_with fail
          obtain ⟨w7, hw7⟩ : ∃ w7, w5.alloc (.cells #[.bool (pgAt D y).full, .int .i64 (pgAt D y).file, .int .i64 (pgAt D y).place, .int .i64 (pgAt D y).value, .int .i64 z] 80) = w7 := ⟨_, rfl⟩
          rw [hw7] at HC7 HB7 ⊢
          clear hw7 hz
          have hlc : L.length ≤ cap := HCAP.out
          obtain ⟨AD, hAD⟩ : ∃ AD : Addr, AD = if cap = (q + 1) then ⟨g, 0, none⟩ else ⟨g, (q + 1), none⟩ := ⟨_, rfl⟩
          have HAD := Lib.hid (show Rd (· = g) w7 (some AD) (rowc (L.drop (q + 1))) from by
            rw [hAD]; split
            · rename_i hh; rw [List.drop_of_length_le (by omega)]; exact Rd.nil _ _ _
            · exact RowB.rdDrop HB7.out (q + 1) hp)
          have HTK := Lib.hid (RowB.rdTake HB7.out (q + 1))
          have hpc : (q + 1) ≤ cap := by omega
          have hpl : (q + 1) ≤ L.length := hp
          have hq0 : (0 : Int) ≤ (q : Int) + 1 := by omega
          have hq2 : (q : Int) + 1 ≤ (L.length : Int) := by omega
          refine wp_region_rs (gl := []) (WInv := fun _ m w5 => ApdI w7 k L (q + 1) m w5) (R := fun _ _ => True) (Post := PV [none, some (.slice (some ⟨g, 0, none⟩) L.length cap), some (.int .i64 ((q : Int) + 1)), some (.slice (some ⟨g, 0, none⟩) (q + 1) cap), none, some (.int .i64 (k : Int)), none, none, some (.slice (some ⟨g, 0, none⟩) L.length cap), some (.int .i64 ((q : Int) + 1)), some (.slice (some AD) (L.length - (q + 1)) (cap - (q + 1))), none, none]) (by kernel_rfl) (by kernel_rfl) (pv_guard (by intro p hp; cases hp)) (fun _ _ _ _ h _ _ => h) (fun _ _ _ _ h _ => h) (ApdI.start _ _ _ _) ⟨?_, ?_, ?_, ?_, ?_, ?_, ?_, ?_, ?_, ?_, ?_, ?_, ?_, trivial⟩ ?_
          · rintro kc m a w5 hkc hch hm hn
            exact rg_val (v := .slice (some ⟨w5.heap.size, 0, none⟩) 0 0) (by simp [execOp, go_sem]) rfl hch.al0 trivial trivial
          · rintro kc m a w5 hkc hch hm hn
            obtain ⟨e1, -⟩ := hn
            replace e1 : a.tmps[5]?.getD undef = .slice (some ⟨g, 0, none⟩) L.length cap := e1
            exact rg_val (v := .slice (some ⟨g, 0, none⟩) L.length cap) (by simp [execOp, go_sem, e1]) rfl (hch.pure _ (by decide) (by decide) (by decide) (by decide) (by decide) (by decide)) trivial rfl
          · rintro kc m a w5 hkc hch hm hn
            obtain ⟨e1, -⟩ := hn
            replace e1 : a.tmps[9]?.getD undef = .int .i64 ((q : Int) + 1) := e1
            exact rg_val (v := .int .i64 ((q : Int) + 1)) (by simp [execOp, go_sem, e1]) rfl (hch.pure _ (by decide) (by decide) (by decide) (by decide) (by decide) (by decide)) trivial rfl
          · rintro kc m a w5 hkc hch hm hn
            obtain ⟨⟨_, e1, _, rfl⟩, ⟨_, e2, _, rfl⟩, -⟩ := hn
            exact rg_val (v := .slice (some ⟨g, 0, none⟩) (q + 1) cap) (by simp [execOp, go_sem, e1, e2]; intro hh; have := hh (by omega); omega) rfl (hch.pure _ (by decide) (by decide) (by decide) (by decide) (by decide) (by decide)) trivial rfl
          · rintro kc m a w5 hkc hch hm hn
            obtain ⟨⟨v0, e1, m0, -⟩, ⟨_, e2, _, rfl⟩, -⟩ := hn
            obtain ⟨g0, rfl, hg0, hb0⟩ := hch.s0 hm v0 m0
            obtain ⟨v', w', hr, h2, h3, _⟩ := run_append_fresh (P := Try.prog) w5 w7.heap.size 24 24 3 i0 (.int .i64 0) 1 8 Try.underlying24 hi hz0 hz1 hz2 rfl (by decide) g0 hg0 hb0 (some ⟨g, 0, none⟩) (q + 1) cap (rowc (L.take (q + 1))) (by rw [rowc_length, List.length_take]; omega) (HTK.out.new hch.chg) (by simp only [maxLen]; omega) (by omega) hch.chg.size
            exact rg_val (v := v') (exec_append (v := .slice (some ⟨g0, 0, none⟩) 0 0) (u := .slice (some ⟨g, 0, none⟩) (q + 1) cap) (.tmp 59) (.tmp 62) _ rfl (by simp [go_sem, e1]) (by simp [go_sem, e2]) hr) rfl (hch.st4 hm h3 h2) trivial trivial
          · rintro kc m a w5 hkc hch hm hn
            obtain ⟨e1, -⟩ := hn
            replace e1 : a.tmps[6]?.getD undef = .int .i64 (k : Int) := e1
            exact rg_val (v := .int .i64 (k : Int)) (by simp [execOp, go_sem, e1]) rfl (hch.pure _ (by decide) (by decide) (by decide) (by decide) (by decide) (by decide)) trivial rfl
          · rintro kc m a w5 hkc hch hm hn
            obtain ⟨⟨_, e1, _, rfl⟩, -⟩ := hn
            exact rg_val (v := .slice (some ⟨w5.heap.size, 0, none⟩) 1 1) (by simp [execOp, go_sem, e1]) rfl hch.al6 trivial trivial
          · rintro kc m a w5 hkc hch hm hn
            obtain ⟨⟨v4, e1, m4, -⟩, ⟨v6, e2, m6, -⟩, -⟩ := hn
            obtain ⟨g6, rfl, hg6, hb6⟩ := hch.s6 hm v6 m6
            obtain ⟨v', w', hr, h2, h3, _⟩ := run_append_rd (P := Try.prog) w5 w7.heap.size 24 24 3 i0 (.int .i64 0) 1 8 Try.underlying24 hi hz0 hz1 hz2 rfl (by decide) v4 (q + 1) (rowc (L.take (q + 1))) (hch.s4 hm v4 m4) (some ⟨g6, 0, none⟩) 1 1 [.int .i64 (k : Int)] rfl (Blk.rd (cs := [.int .i64 (k : Int)]) hb6) (by simp [Value.oneCell']) (by simp only [maxLen]; omega) (by omega) hch.chg.size
            exact rg_val (v := v') (exec_append (v := v4) (u := .slice (some ⟨g6, 0, none⟩) 1 1) (.tmp 63) (.tmp 65) _ rfl (by simp [go_sem, e1]) (by simp [go_sem, e2]) hr) rfl (hch.st7 hm m4 h3 h2) trivial trivial
          · rintro kc m a w5 hkc hch hm hn
            obtain ⟨e1, -⟩ := hn
            replace e1 : a.tmps[5]?.getD undef = .slice (some ⟨g, 0, none⟩) L.length cap := e1
            exact rg_val (v := .slice (some ⟨g, 0, none⟩) L.length cap) (by simp [execOp, go_sem, e1]) rfl (hch.pure _ (by decide) (by decide) (by decide) (by decide) (by decide) (by decide)) trivial rfl
          · rintro kc m a w5 hkc hch hm hn
            obtain ⟨e1, -⟩ := hn
            replace e1 : a.tmps[9]?.getD undef = .int .i64 ((q : Int) + 1) := e1
            exact rg_val (v := .int .i64 ((q : Int) + 1)) (by simp [execOp, go_sem, e1]) rfl (hch.pure _ (by decide) (by decide) (by decide) (by decide) (by decide) (by decide)) trivial rfl
          · rintro kc m a w5 hkc hch hm hn
            obtain ⟨⟨_, e1, _, rfl⟩, ⟨_, e2, _, rfl⟩, -⟩ := hn
            exact rg_val (v := .slice (some AD) (L.length - (q + 1)) (cap - (q + 1))) (by simp [execOp, go_sem, e1, e2, hAD, hq0, hq2]; split <;> rfl) rfl (hch.pure _ (by decide) (by decide) (by decide) (by decide) (by decide) (by decide)) trivial rfl
          · rintro kc m a w5 hkc hch hm hn
            obtain ⟨⟨v7, e1, m7, -⟩, ⟨_, e2, _, rfl⟩, -⟩ := hn
            obtain ⟨v', w', hr, h2, h3, _⟩ := run_append_rd (P := Try.prog) w5 w7.heap.size 24 24 3 i0 (.int .i64 0) 1 8 Try.underlying24 hi hz0 hz1 hz2 rfl (by decide) v7 ((q + 1) + 1) (rowc (L.take (q + 1)) ++ [.int .i64 (k : Int)]) (hch.s7 hm v7 m7) (some AD) (L.length - (q + 1)) (cap - (q + 1)) (rowc (L.drop (q + 1))) (by rw [rowc_length, List.length_drop]; omega) (HAD.out.new hch.chg) (rowc_one _) (by simp only [maxLen]; omega) (by omega) hch.chg.size
            exact rg_val (v := v') (exec_append (v := v7) (u := .slice (some AD) (L.length - (q + 1)) (cap - (q + 1))) (.tmp 66) (.tmp 69) _ rfl (by simp [go_sem, e1]) (by simp [go_sem, e2]) hr) rfl (hch.st11 hm m7 h3 h2) trivial trivial
          · rintro kc m a w5 hkc hch hm hn
            obtain ⟨⟨v11, e1, m11, -⟩, -⟩ := hn
            exact rg_val (v := v11) (by simp [execOp, go_sem, e1]) rfl (hch.st12 m11) trivial trivial
          rintro m w6 hai
          simp only [AllVals]
          rintro v0 m0 p0 v1 m1 p1 v2 m2 p2 v3 m3 p3 v4 m4 p4 v5 m5 p5 v6 m6 p6 v7 m7 p7 v8 m8 p8 v9 m9 p9 v10 m10 p10 v11 m11 p11 v12 m12 p12
          have ho := hai.s11 v12 (hai.s12 v12 m12)
          have HC6 := Lib.hid hai.chg
          clear p0 p1 p2 p3 p4 p5 p6 p7 p8 p9 p10 p11 p12 m0 m1 m2 m3 m4 m5 m6 m7 m8 m9 m10 m11 m12
          rw [show (q + 1) + 1 + (L.length - (q + 1)) = (srt (stampOf D) (since D s (k + 1))).length by have := congrArg List.length HL2.out; simp at this; omega, show (rowc (L.take (q + 1)) ++ [.int .i64 (k : Int)]) ++ rowc (L.drop (q + 1)) = rowc (srt (stampOf D) (since D s (k + 1))) by rw [← HL2.out, rowc_append, rowc_cons, List.append_assoc]; rfl] at ho
          have hL2n : 0 < (srt (stampOf D) (since D s (k + 1))).length := by have := congrArg List.length HL2.out; simp at this; omega
          obtain ⟨A9, c9, rfl, hn9, h9⟩ := OwnS.of_row ho
          rcases h9 with ⟨h9, _⟩ | ⟨g9, rest9, rfl, hg9, hE9, hb9⟩
          · omega
          have HB9 := Lib.hid hb9
          have HG9 := Lib.hid (show w.heap.size ≤ g9 by have := HC7.out.size; omega)
          have HN9 := Lib.hid hn9
          clear hai ho hb9 hg9 hE9 hn9 hAD hpc hpl hlc hL2n
          simp only [Act.put, List.setIfInBounds_toArray, List.set_cons_succ, List.set_cons_zero]
          go_wp2
          go_roundw
          case rel => exact ⟨k + 1, g9, c9, rest9, rfl, by omega, by go_num, HC7.out.trans HC6.out, HG9.out, HN9.out, HB9.out⟩
          case measure => simp [intOf]; omega
        · have hl' : ¬ z ≤ x := hl
          go_wp2
          go_roundw
          case rel => exact ⟨q, by go_num, by omega, Lib.hid (.inr (by rw [HY.out, HZ.out]; omega)), HH5.out.alloc _⟩
          case measure => simp [intOf]
end Go.Proofs.Ytpiojofmflfkkaa
/- sameInts and hasInt of the laws. -/
namespace Go.Proofs.Ytpiojofmflfkkaa
open Go.RowKit
set_option maxRecDepth 100000 in
set_option maxHeartbeats 1000000 in
theorem sameInts_t (F G : Nat → Prop) (A B : Option Addr) (c d : Nat) (xs : List Int) (w : World) (h : Rd F w A (icells xs)) (h' : Rd G w B (icells xs)) (hl : xs.length ≤ 9223372036854775807) :
    Calls Try.prog 36 #[.slice A xs.length c, .slice B xs.length d] w fun e w' => e = .returned (.bool true) ∧ Chg NoB w w' := by
  have hne : ((xs.length : Int) != (xs.length : Int)) = false := by simp
  go_enter Try.func36, Try.ntmps36
  go_wp2
  go_loopw [5] (fun i wr => ∃ k : Nat, k ≤ xs.length ∧ i = .int .i64 k ∧ Chg NoB w wr) (fun i _ => xs.length - (intOf i).toNat)
  case atStart => exact ⟨0, Nat.zero_le _, rfl, Chg.refl _ _⟩
  case round =>
    obtain ⟨k, hk, rfl, hch⟩ := hrel
    by_cases hlt : k < xs.length
    · obtain ⟨ad, rfl, hf, hbl, hc⟩ := ints_at (h.chg hch fun _ _ x => x) hlt
      obtain ⟨ad', rfl, hf', hbl', hc'⟩ := ints_at (h'.chg hch fun _ _ x => x) hlt
      have hi0 : (0 : Int) ≤ (k : Int) := Int.natCast_nonneg _
      have hi1 : (k : Int) < (xs.length : Int) := by omega
      have HC := Lib.hid hch
      clear hch
      go_wp2
      go_quiet (fail)
      go_wp2
      go_roundw
      case rel => exact ⟨k + 1, by omega, by go_num, HC.out.drewN _⟩
      case measure => simp [intOf]; omega
    · go_wp2
      go_ret
      exact ⟨rfl, hch⟩
def HasI (w : World) (xs : List Int) (n : Int) (e : Ending) (w' : World) : Prop := ∃ b : Bool, e = .returned (.bool b) ∧ (b = true ↔ n ∈ xs) ∧ w = w'
set_option maxHeartbeats 1000000 in
theorem hasInt_any (F : Nat → Prop) (A : Option Addr) (c : Nat) (xs : List Int) (n : Int) (w : World) (h : Rd F w A (icells xs)) (hl : xs.length ≤ 9223372036854775807) :
    Calls Try.prog 55 #[.slice A xs.length c, .int .i64 n] w (HasI w xs n) := by
  go_enter Try.func55, Try.ntmps55
  go_wp2
  go_loop [5] (fun i => ∃ k : Nat, k ≤ xs.length ∧ i = .int .i64 k ∧ Hid (n ∉ xs.take k)) (fun i => xs.length - (intOf i).toNat)
  case atStart => exact ⟨0, Nat.zero_le _, rfl, Lib.hid (by simp)⟩
  case round =>
    obtain ⟨k, hk, rfl, hn⟩ := hrel
    by_cases hlt : k < xs.length
    · obtain ⟨ad, rfl, hf, hbl, hc⟩ := ints_at h hlt
      by_cases he : xs[k] = n
      · have he' : (xs[k] == n) = true := beq_iff_eq.2 he
        have HE := Lib.hid he
        clear he
        go_wp2
        go_ret
        exact ⟨true, rfl, by simp; rw [← HE.out]; exact List.getElem_mem hlt, rfl⟩
      · have he' : (xs[k] == n) = false := beq_eq_false_iff_ne.2 he
        have HN := Lib.hid (show n ∉ xs.take (k + 1) by
          rw [List.take_succ_eq_append_getElem hlt]
          intro hm
          rcases List.mem_append.1 hm with h1 | h1
          · exact hn.out h1
          · simp at h1; exact he h1.symm)
        clear he
        go_wp2
        go_round
        case rel => exact ⟨k + 1, by omega, by go_num, HN⟩
        case measure => simp [intOf]; omega
    · go_wp2
      go_ret
      exact ⟨false, rfl, by have := hn.out; rw [List.take_of_length_le (by omega)] at this; simpa using this, rfl⟩
end Go.Proofs.Ytpiojofmflfkkaa
/- The laws FnLastStamp and FnPagesSince: the walks. -/
namespace Go.Proofs.Ytpiojofmflfkkaa
open Go.RowKit
theorem lastTo_at (D : List Bk) (n : Nat) : ∀ j, j < n → stampOf D j ≤ lastTo D n := by
  induction n with
  | zero => intro j hj; omega
  | succ n ih =>
    intro j hj
    unfold lastTo
    by_cases h : j = n
    · subst h; unfold stampOf; omega
    · have := ih j (by omega); omega
theorem lastTo_hit (D : List Bk) (n : Nat) : lastTo D n = 0 ∨ ∃ j, j < n ∧ stampOf D j = lastTo D n := by
  induction n with
  | zero => exact .inl rfl
  | succ n ih =>
    unfold lastTo
    by_cases h : lastTo D n ≤ (pgAt D n).stamp
    · exact .inr ⟨n, by omega, by unfold stampOf; omega⟩
    · rcases ih with h1 | ⟨j, hj, h1⟩
      · exact .inl (by omega)
      · exact .inr ⟨j, by omega, by omega⟩
theorem lastStamp_none {D : List Bk} (hd : DvOk D) : pagesSince D (lastStamp D) = [] := by
  have e1 : lastStamp D = lastTo D (4 * D.length) := if_pos hd
  have e2 : since D (lastTo D (4 * D.length)) (4 * D.length) = [] := by
    apply List.eq_nil_iff_forall_not_mem.2
    intro x hx
    have h1 := lastTo_at D _ x (since_lt hx)
    have h2 := since_good hx
    unfold sinceGood at h2
    rw [Bool.and_eq_true, decide_eq_true_eq] at h2
    unfold stampOf at h1
    omega
  rw [e1, show pagesSince D (lastTo D (4 * D.length)) = srt (stampOf D) (since D (lastTo D (4 * D.length)) (4 * D.length)) from if_pos hd, e2, srt_nil]
theorem lastStamp_some {D : List Bk} (hd : DvOk D) (h0 : 0 < lastStamp D) : 0 < (pagesSince D (lastStamp D - 1)).length := by
  have e1 : lastStamp D = lastTo D (4 * D.length) := if_pos hd
  rw [e1] at h0 ⊢
  rw [show pagesSince D (lastTo D (4 * D.length) - 1) = srt (stampOf D) (since D (lastTo D (4 * D.length) - 1) (4 * D.length)) from if_pos hd, srt_length]
  rcases lastTo_hit D (4 * D.length) with h1 | ⟨j, hj, h1⟩
  · omega
  · have hok := pgAt_ok hd hj
    have hf : (pgAt D j).full = true := by
      cases hf : (pgAt D j).full
      · have := ((pgOk_no hf).1 hok).2.2.2
        unfold stampOf at h1
        omega
      · rfl
    have hm : j ∈ since D (lastTo D (4 * D.length) - 1) (4 * D.length) := by
      unfold since
      rw [List.mem_filter, List.mem_range]
      refine ⟨hj, ?_⟩
      unfold sinceGood
      rw [hf, Bool.true_and, decide_eq_true_eq]
      unfold stampOf at h1
      omega
    exact List.length_pos_of_mem hm
theorem since_count {D : List Bk} (hd : DvOk D) : ∀ n, n ≤ D.length → (since D (-1) (4 * n)).length + freeTo D n = 4 * n := by
  intro n
  induction n with
  | zero => intro _; simp [since, freeTo]
  | succ n ih =>
    intro hn
    have h1 := ih (by omega)
    have hb := hd.2 n (by omega)
    obtain ⟨p0, p1, p2, p3, hp⟩ := four_pgs hb.2.1
    have hlen : D[n].pages.length = 4 := hb.2.1
    have hs : ∀ r (hr : r < 4), sinceGood D (-1) (4 * n + r) = (D[n].pages[r]'(by omega)).full := fun r hr => by
      have e := pgAt_eq (D := D) (q := n) (r := r) (by omega) (by omega) hr
      have hok : PgOk (D[n].pages[r]'(by omega)) := (hb.2.2 r (by omega)).1
      have := (stamp_range hok).1
      unfold sinceGood
      rw [e, show decide ((-1 : Int) < (D[n].pages[r]'(by omega)).stamp) = true from decide_eq_true (by omega), Bool.and_true]
    have hlen1 : ∀ k, (since D (-1) (k + 1)).length = (since D (-1) k).length + if sinceGood D (-1) k = true then 1 else 0 := fun k => by
      by_cases hg : sinceGood D (-1) k = true
      · rw [since_yes hg, if_pos hg]; simp
      · rw [since_no (by simpa using hg), if_neg hg]; simp
    have hg0 := hs 0 (by omega)
    have hg1 := hs 1 (by omega)
    have hg2 := hs 2 (by omega)
    have hg3 := hs 3 (by omega)
    have e4 : 4 * (n + 1) = 4 * n + 1 + 1 + 1 + 1 := by omega
    have hw : written D[n].pages ≤ 4 := by have := written_le D[n].pages; omega
    have hfr : freeTo D (n + 1) = freeTo D n + (4 - written D[n].pages) := by
      show freeTo D n + (4 - written (D.getD n zBk).pages) = _
      rw [getD_at (by omega)]
    rw [e4, hlen1, hlen1, hlen1, hlen1, hfr, show 4 * n + 1 + 1 + 1 = 4 * n + 3 by omega, show 4 * n + 1 + 1 = 4 * n + 2 by omega, hg3, hg2, hg1, show sinceGood D (-1) (4 * n) = _ from hg0]
    have hwr : written D[n].pages = (if p0.full = true then 1 else 0) + (if p1.full = true then 1 else 0) + (if p2.full = true then 1 else 0) + (if p3.full = true then 1 else 0) := by
      rw [hp]
      unfold written
      cases e0 : p0.full <;> cases e1 : p1.full <;> cases e2 : p2.full <;> cases e3 : p3.full <;> simp [e0, e1, e2, e3]
    have e0 : D[n].pages[0]'(by omega) = p0 := by simp [hp]
    have e1 : D[n].pages[1]'(by omega) = p1 := by simp [hp]
    have e2 : D[n].pages[2]'(by omega) = p2 := by simp [hp]
    have e3 : D[n].pages[3]'(by omega) = p3 := by simp [hp]
    rw [e0, e1, e2, e3]
    omega
theorem all_pages {D : List Bk} (hd : DvOk D) : ((pagesSince D (-1)).length : Int) = 4 * (D.length : Int) - freePages D := by
  have h := since_count hd D.length (Nat.le_refl _)
  rw [show pagesSince D (-1) = srt (stampOf D) (since D (-1) (4 * D.length)) from if_pos hd, srt_length, show freePages D = (freeTo D D.length : Int) from if_pos hd]
  omega
theorem ps_nodup {D : List Bk} {s : Int} : (pagesSince D s).Nodup := by
  unfold pagesSince
  split
  · exact (srt_perm _).nodup_iff.2 ((since_pair D s _).imp (fun h => Nat.ne_of_lt h))
  · exact List.nodup_nil
theorem ps_good {D : List Bk} {s : Int} {x : Nat} (h : x ∈ pagesSince D s) : DvOk D ∧ x < 4 * D.length ∧ (pgAt D x).full = true ∧ s < stampOf D x := by
  unfold pagesSince at h
  split at h
  · rename_i hd
    rw [srt_mem] at h
    have h2 := since_good h
    unfold sinceGood at h2
    rw [Bool.and_eq_true, decide_eq_true_eq] at h2
    exact ⟨hd, since_lt h, h2.1, h2.2⟩
  · cases h
theorem ps_sorted {D : List Bk} {s : Int} {i j : Nat} (hij : i ≤ j) (hj : j < (pagesSince D s).length) : stampOf D ((pagesSince D s).getD i 0) ≤ stampOf D ((pagesSince D s).getD j 0) := by
  have hs : Srt (stampOf D) (pagesSince D s) := by
    unfold pagesSince
    split
    · exact srt_sorted _
    · exact List.Pairwise.nil
  have := leK_iff.1 (hs.at_ hij hj)
  omega
/-- The stamp ahead of number k of the pages. -/
def prevStamp (D : List Bk) (s : Int) (L : List Nat) (k : Nat) : Int := if k = 0 then s else stampOf D (L.getD (k - 1) 0)
end Go.Proofs.Ytpiojofmflfkkaa
