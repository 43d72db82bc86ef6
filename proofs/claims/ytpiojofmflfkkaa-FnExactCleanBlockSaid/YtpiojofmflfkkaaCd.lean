/- FileSize, FileValues of the reference, on a device and a table that are valid. -/
import Derived.Test.YtpiojofmflfkkaaCb
namespace Go.Proofs.Ytpiojofmflfkkaa
open Go.RowKit
theorem tab_fit {X : List (List Int)} (hX : tabOk X) : X.length ≤ 9223372036854775807 ∧ ∀ r ∈ X, r.length ≤ 9223372036854775807 := ⟨by have := hX.1; omega, fun r hr => by
  obtain ⟨k, hk, rfl⟩ := List.getElem_of_mem hr
  have := (hX.2 k hk).1; omega⟩
theorem chg_grownB {w w' : World} {B size n : Nat} {e : TypeId} {v : Value} {xs : List Value} (h : w.ownsRow B e size v n xs) (hg : w.grownBy w' v.ownBlock) : Chg (fun i => B ≤ i) w w' :=
  (Chg.refl _ w).grown hg fun k hk => .inl (h.lt k hk).1
set_option maxRecDepth 100000 in
set_option maxHeartbeats 2000000 in
theorem sFileSize_any (F : Nat → Prop) (A : Option Addr) (c : Nat) (X : List (List Int)) (w : World) (h : TabR F w A X) (hX : tabOk X) (f : Nat) (hf : f < 8) :
    Calls Try.prog 131 #[.agg #[.slice A X.length c], .int .i64 f] w fun e w' => e = .returned (.int .i64 (fsz X f 6 : Nat)) ∧ Chg NoB w w' := by
  have hca := (Chg.refl NoB w).alloc (.cells #[.slice A X.length c] 31)
  have HB := Lib.hid (Blk.new w 31 #[.slice A X.length c])
  have HT0 := Lib.hid h.lt
  have HC := Lib.hid hca
  have HX := Lib.hid hX
  have HXF := Lib.hid (tab_fit hX)
  have HL8 := Lib.hid hX.1
  have i0 : (0 : Int) ≤ (f : Int) := Int.natCast_nonneg _
  have i1 : (f : Int) < 8 := by omega
  have HF := Lib.hid hf
  clear h hca hX hf
  go_enter Try.func131, Try.ntmps131
  go_wp2_with fail
  refine (sTableValid_any _ A c X _ (HT0.out.new HC.out) HXF.out.1 HXF.out.2).mono ?_
  rintro e w1 ⟨r, rfl, hr, hc1⟩
  obtain rfl : r = true := hr.2 HX.out
  have HB1 := Lib.hid (HB.out.chg hc1 (fun x => x))
  have HC1 := Lib.hid (HC.out.trans hc1)
  clear hr hc1
  go_wp2_with fail
  refine (l1In_t (f : Int) 0 7 _ ⟨by omega, by omega⟩).mono ?_
  rintro e w1' ⟨rfl, rfl⟩
  obtain ⟨ad, B, c', rfl, hcell, hrows⟩ := tab_row (HT0.out.new HC1.out) HX.out HF.out
  have HROW := Lib.hid hrows
  have x0 : w1.cell? ⟨w.heap.size, 0, none⟩ = some (.slice (some ad) 8 c) := by rw [← HL8.out]; exact (HB1.out.cell _).trans rfl
  have HCELL := Lib.hid hcell
  have HX0 := Lib.hid x0
  clear hrows hcell x0
  go_wp2_with fail
  go_loopw [5] (fun i wr => ∃ k : Nat, k ≤ 6 ∧ i = .int .i64 ((k : Int) - 1) ∧ Hid (fsz X f k = fsz X f 6) ∧ Chg NoB w1 wr) (fun i _ => (intOf i + 1).toNat)
  case atStart => exact ⟨6, Nat.le_refl _, rfl, Lib.hid rfl, Chg.refl _ _⟩
  case round =>
    obtain ⟨k, hk, rfl, hz, hch⟩ := hrel
    have HCH := Lib.hid hch
    cases k with
    | zero =>
      clear hch
      have hg : ¬ ((0 : Int) ≤ ((0 : Nat) : Int) - 1) := by omega
      go_wp2_with fail
      go_ret
      exact ⟨by rw [← hz.out]; rfl, HC1.out.trans HCH.out⟩
    | succ k =>
      have ck := hch.cell (HROW.out k (by omega)) (fun x => x)
      have hcell := hch.cell HCELL.out (fun x => x)
      have x0 := hch.cell HX0.out (fun x => x)
      have HHIT := Lib.hid (fun hh => fsz_hit (X := X) (f := f) (k := k) hh)
      have HMISS := Lib.hid (fun hh => fsz_miss (X := X) (f := f) (k := k) hh)
      have e0 : ((k + 1 : Nat) : Int) - 1 = (k : Int) := by omega
      have HZ := hz
      rw [e0]
      clear hz
      have k0 : (0 : Int) ≤ (k : Int) := Int.natCast_nonneg _
      have k1 : (k : Int) < 6 := by omega
      generalize tget X f k = x at ck HHIT HMISS
      clear hch e0
      by_cases hx : 0 ≤ x
      · have HS := Lib.hid (HHIT.out hx)
        go_wp2_with fail
        go_ret
        exact ⟨by rw [← HZ.out, HS.out]; go_num, HC1.out.trans HCH.out⟩
      · have HS := Lib.hid (HMISS.out hx)
        go_wp2_with fail
        go_roundw
        case rel => exact ⟨k, by omega, by go_num, Lib.hid (by rw [← HZ.out, HS.out]), HCH.out⟩
        case measure => simp [intOf]
set_option maxRecDepth 100000 in
set_option maxHeartbeats 2000000 in
theorem sFileValues_any (F G : Nat → Prop) (A0 : Option Addr) (c0 : Nat) (D : List Bk) (A : Option Addr) (c : Nat) (X : List (List Int)) (w : World) (hr : DevR F w A0 D) (hd : DvOk D) (h : TabR G w A X) (hX : tabOk X) (f : Nat) (hf : f < 8) :
    Calls Try.prog 78 #[.slice A0 D.length c0, .agg #[.slice A X.length c], .int .i64 f] w (FvP w D X f) := by
  obtain ⟨j0, hj, hy0, hy1, hy2⟩ := info_parts info_int
  obtain ⟨q1, q2, q3⟩ := lit2 w 31 3 #[.slice A X.length c] #[]
  have HB := Lib.hid q1
  have HT0 := Lib.hid h.lt
  have HR0 := Lib.hid hr.lt
  have HC := Lib.hid q3
  have HO0' := (show ((w.alloc (.cells #[.slice A X.length c] 31)).alloc (.cells #[] 3)).ownsRow (w.heap.size + 1) 3 1 (.slice (some ⟨(w.alloc (.cells #[.slice A X.length c] 31)).heap.size, 0, none⟩) 0 0) 0 [] from own_empty _ _ 1 _ (by rw [World.size_alloc]; exact Nat.le_refl _))
  rw [World.size_alloc w] at HO0'
  have HO0 := Lib.hid HO0'
  clear HO0'
  have HX := Lib.hid hX
  have HXF := Lib.hid (tab_fit hX)
  have HD := Lib.hid hd
  have HL8 := Lib.hid hX.1
  have i0 : (0 : Int) ≤ (f : Int) := Int.natCast_nonneg _
  have i1 : (f : Int) < 8 := by omega
  have HF := Lib.hid hf
  obtain ⟨n, hn⟩ : ∃ n, fsz X f 6 = n := ⟨_, rfl⟩
  have HN := Lib.hid hn
  have hn6 : n ≤ 6 := by rw [← hn]; exact fsz_le X f 6
  have HREF := Lib.hid (fun (hh : ∀ p, p < n → refOk D X f p) => fileOk_size (D := D) (X := X) (f := f) (by rw [hn]; exact hh))
  have HVL := Lib.hid (show (fileVals D X f).length = n by rw [fileVals_len, hn])
  have HBAD := Lib.hid (show ∀ wq (Aq : Option Addr) (cq : Nat), Chg NoB w wq → (∃ p, p < 6 ∧ ¬ refOk D X f p) → FvP w D X f (.returned (.tuple #[.slice Aq 0 cq, .bool false])) wq from fun wq Aq cq h1 h2 => FvP.no (fun hh => by obtain ⟨p, hp, hq⟩ := h2; exact hq (hh p hp)) h1)
  have n0 : ¬ ((n : Int) < 0) := by omega
  clear h hX hd hf hr hn q1 q2 q3
  go_enter Try.func78, Try.ntmps78
  go_wp2_with fail
  obtain ⟨w2, hw2⟩ : ∃ w2, (w.alloc (.cells #[.slice A X.length c] 31)).alloc (.cells #[] 3) = w2 := ⟨_, rfl⟩
  rw [hw2] at HB HC HO0 ⊢
  clear hw2
  refine (sDeviceValid_t _ A0 c0 D _ (HR0.out.new HC.out) HD.out).mono ?_
  rintro e w3 ⟨rfl, hc3⟩
  have HB3 := Lib.hid (HB.out.chg hc3 (fun x => x))
  have HC3 := Lib.hid (HC.out.trans hc3)
  have HO3 := Lib.hid (own_chg HO0.out hc3 (fun _ _ x => x))
  have x0 : w3.cell? ⟨w.heap.size, 0, none⟩ = some (.slice A X.length c) := (HB3.out.cell _).trans rfl
  clear hc3
  go_wp2_with fail
  refine (sFileSize_any _ A c X _ (HT0.out.new HC3.out) HX.out f HF.out).mono ?_
  rintro e w4 ⟨rfl, hc4⟩
  rw [HN.out]
  have HB4 := Lib.hid (HB3.out.chg hc4 (fun x => x))
  have HC4 := Lib.hid (HC3.out.trans hc4)
  have HO4 := Lib.hid (own_chg HO3.out hc4 (fun _ _ x => x))
  clear hc4 x0
  go_wp2_with fail
  go_loopw [8, 9] (fun v i wr => ∃ k : Nat, k ≤ n ∧ i = .int .i64 k ∧ Chg NoB w wr ∧ Blk wr w.heap.size 31 #[.slice A X.length c] ∧ wr.ownsRow (w.heap.size + 1) 3 1 v k (icells ((fileVals D X f).take k)) ∧ Hid (∀ p, p < k → refOk D X f p)) (fun _ i _ => n - (intOf i).toNat)
  case atStart => exact ⟨0, Nat.zero_le _, rfl, HC4.out, HB4.out, HO4.out, Lib.hid fun p hp => absurd hp (Nat.not_lt_zero p)⟩
  case round =>
    obtain ⟨k, hk, rfl, hch, hbt, how, hrf⟩ := hrel
    have HCH := Lib.hid hch
    have HBT := Lib.hid hbt
    have HO := Lib.hid how
    have k0 : (0 : Int) ≤ (k : Int) := Int.natCast_nonneg _
    have x0 : wr.cell? ⟨w.heap.size, 0, none⟩ = some (.slice A X.length c) := (hbt.cell _).trans rfl
    clear hch hbt how
    go_wp2_with fail
    refine (sFileSize_any _ A c X _ (HT0.out.new HCH.out) HX.out f HF.out).mono ?_
    rintro e w5 ⟨rfl, hc5⟩
    rw [HN.out]
    have HC5 := Lib.hid (HCH.out.trans hc5)
    have HB5 := Lib.hid (HBT.out.chg hc5 (fun x => x))
    have HO5 := Lib.hid (own_chg HO.out hc5 (fun _ _ x => x))
    clear hc5 x0
    by_cases hlt : k < n
    · obtain ⟨ad, B, c', rfl, hcell, hrows⟩ := tab_row (HT0.out.new HC5.out) HX.out HF.out
      have ck := hrows k (by omega)
      have x0 : w5.cell? ⟨w.heap.size, 0, none⟩ = some (.slice (some ad) 8 c) := by rw [← HL8.out]; exact (HB5.out.cell _).trans rfl
      have k1 : (k : Int) < 6 := by omega
      have k2 : (k : Int) < (n : Int) := by omega
      have HNEG := Lib.hid (fun hh => (⟨refOk_neg (D := D) (X := X) (f := f) (p := k) hh, fval_neg (D := D) hh⟩ : refOk D X f k ∧ fval D X f k = 0))
      have HPOS := Lib.hid (fun hh => refOk_read (D := D) (X := X) (f := f) (p := k) HD.out hh)
      have HVAL := Lib.hid (fun hh hq => fval_read (D := D) (X := X) (f := f) (p := k) HD.out hh hq)
      have HNX := Lib.hid (fun (v : Int) (hv : fval D X f k = v) => show icells ((fileVals D X f).take (k + 1)) = icells ((fileVals D X f).take k) ++ [Value.int .i64 v] by rw [icells_take_succ _ k (by rw [HVL.out]; exact hlt), fileVals_get, hv])
      generalize tget X f k = x at ck HNEG HPOS HVAL
      go_wp2_with fail
      refine (sReadPage_any _ A0 c0 D x _ (HR0.out.new HC5.out) HD.out.small).mono ?_
      rintro e w6 ⟨rfl, hc6⟩
      obtain ⟨⟨b, pf, pp, pv, ps⟩, hP⟩ : ∃ P, readPage D x = P := ⟨_, rfl⟩
      have HPX := Lib.hid (fun hh => HPOS.out hh)
      have HVX := Lib.hid (fun hh hq => HVAL.out hh hq)
      rw [hP] at HPX HVX ⊢
      have hca := (Chg.refl NoB w6).alloc (.cells #[.bool b, .int .i64 pf, .int .i64 pp, .int .i64 pv, .int .i64 ps] 80)
      have hpg := Blk.new w6 80 #[.bool b, .int .i64 pf, .int .i64 pp, .int .i64 pv, .int .i64 ps]
      have HC6 := Lib.hid (HC5.out.trans hc6)
      have HB6 := Lib.hid (HB5.out.chg hc6 (fun x => x))
      have HO6 := Lib.hid (own_chg HO5.out hc6 (fun _ _ x => x))
      have z0 := (hca.cell (hc6.cell x0 (fun x => x)) (fun x => x))
      have z1 := (hca.cell (hc6.cell hcell (fun x => x)) (fun x => x))
      have z2 := (hca.cell (hc6.cell ck (fun x => x)) (fun x => x))
      have y1 := hpg.cell 1
      have y2 := hpg.cell 2
      have y3 := hpg.cell 3
      replace y1 := y1.trans (show _ = some (Value.int .i64 pf) from rfl)
      replace y2 := y2.trans (show _ = some (Value.int .i64 pp) from rfl)
      replace y3 := y3.trans (show _ = some (Value.int .i64 pv) from rfl)
      have hsz6 := HC6.out.size
      clear hpg hca hc6 hP HPOS HVAL ck hcell x0 hrows
      by_cases hx : x < 0
      · have HZ := Lib.hid (HNEG.out hx)
        clear HNEG
        go_wp2_with (at_builtin; refine wpList_append_own _ rfl (.tmp 54) (.tmp 55) _ rfl (w.heap.size + 1) 3 j0 (.int .i64 0) 1 8 Try.underlying24 hj hy0 hy1 hy2 rfl (by decide) _ _ _ rfl ((HO6.out.alloc _).alloc _) ⟨w6.heap.size + 1, 0, none⟩ 1 1 [.int .i64 0] rfl rfl (cells_new2 _ _ _ _) (by simp [Value.oneCell']) (by simp only [maxLen]; omega) (by omega) (by simp; omega) ?_; intro v' w8 hown' hgrow _)
        go_roundw
        case rel =>
          refine ⟨k + 1, by omega, by go_num, (HC6.out.alloc _).alloc _ |>.trans' (chg_grownB ((HO6.out.alloc _).alloc _) hgrow) (fun i hi => .inr (by have hi' : w.heap.size + 1 ≤ i := hi; omega)), ((HB6.out.chg ((Chg.refl NoB _).alloc _) (fun x => x)).chg ((Chg.refl NoB _).alloc _) (fun x => x)).chg (chg_grownB ((HO6.out.alloc _).alloc _) hgrow) (by omega), ?_, Lib.hid (succ_below hrf.out HZ.out.1)⟩
          rw [HNX.out 0 HZ.out.2]
          exact hown'
        case measure => simp [intOf]; omega
      · have hx0 : 0 ≤ x := Int.not_lt.1 hx
        clear HNEG
        cases b
        case false =>
          have HNO := Lib.hid (show ¬ refOk D X f k from fun hh => by have := ((HPX.out hx0).1 hh).1; cases this)
          go_wp2_with fail
          (try simp only [Exit.inBlock, Exit.then])
          refine bodyPost_ret (v := .tuple #[.slice (some ⟨w6.heap.size + 1, 0, none⟩) 0 0, .bool false]) (by simp [results, Try.results78, go_sem, *]) rfl ?_
          exact HBAD.out _ _ _ ((HC6.out.alloc _).alloc _) ⟨k, by omega, HNO.out⟩
        case true =>
          by_cases hpf : pf = (f : Int)
          case neg =>
            have hb1 : (pf == (f : Int)) = false := beq_eq_false_iff_ne.2 hpf
            have HNO := Lib.hid (show ¬ refOk D X f k from fun hh => hpf ((HPX.out hx0).1 hh).2.1)
            go_wp2_with fail
            (try simp only [Exit.inBlock, Exit.then])
            refine bodyPost_ret (v := .tuple #[.slice (some ⟨w6.heap.size + 1, 0, none⟩) 0 0, .bool false]) (by simp [results, Try.results78, go_sem, *]) rfl ?_
            exact HBAD.out _ _ _ ((HC6.out.alloc _).alloc _) ⟨k, by omega, HNO.out⟩
          case pos =>
            by_cases hpp : pp = (k : Int)
            case neg =>
              have hb1 : (pf == (f : Int)) = true := beq_iff_eq.2 hpf
              have hb2 : (pp == (k : Int)) = false := beq_eq_false_iff_ne.2 hpp
              have HNO := Lib.hid (show ¬ refOk D X f k from fun hh => hpp ((HPX.out hx0).1 hh).2.2)
              clear hpf
              go_wp2_with fail
              (try simp only [Exit.inBlock, Exit.then])
              refine bodyPost_ret (v := .tuple #[.slice (some ⟨w6.heap.size + 1, 0, none⟩) 0 0, .bool false]) (by simp [results, Try.results78, go_sem, *]) rfl ?_
              exact HBAD.out _ _ _ ((HC6.out.alloc _).alloc _) ⟨k, by omega, HNO.out⟩
            case pos =>
              have hb1 : (pf == (f : Int)) = true := beq_iff_eq.2 hpf
              have hb2 : (pp == (k : Int)) = true := beq_iff_eq.2 hpp
              have HYES := Lib.hid (show refOk D X f k from (HPX.out hx0).2 ⟨rfl, hpf, hpp⟩)
              have HVV := Lib.hid (show fval D X f k = pv from HVX.out hx0 HYES.out)
              clear hpf hpp
              go_wp2_with (at_builtin; refine wpList_append_own _ rfl (.tmp 71) (.tmp 74) _ rfl (w.heap.size + 1) 3 j0 (.int .i64 0) 1 8 Try.underlying24 hj hy0 hy1 hy2 rfl (by decide) _ _ _ rfl ((HO6.out.alloc _).alloc _) ⟨w6.heap.size + 1, 0, none⟩ 1 1 [.int .i64 pv] rfl rfl (cells_new2 _ _ _ _) (by simp [Value.oneCell']) (by simp only [maxLen]; omega) (by omega) (by simp; omega) ?_; intro v' w8 hown' hgrow _)
              go_roundw
              case rel =>
                refine ⟨k + 1, by omega, by go_num, (HC6.out.alloc _).alloc _ |>.trans' (chg_grownB ((HO6.out.alloc _).alloc _) hgrow) (fun i hi => .inr (by have hi' : w.heap.size + 1 ≤ i := hi; omega)), ((HB6.out.chg ((Chg.refl NoB _).alloc _) (fun x => x)).chg ((Chg.refl NoB _).alloc _) (fun x => x)).chg (chg_grownB ((HO6.out.alloc _).alloc _) hgrow) (by omega), ?_, Lib.hid (succ_below hrf.out HYES.out)⟩
                rw [HNX.out pv HVV.out]
                exact hown'
              case measure => simp [intOf]; omega
    · obtain rfl : k = n := by omega
      have HOK := Lib.hid (HREF.out hrf.out)
      obtain ⟨A', c', hv, ho⟩ := OwnS.of_row HO5.out
      subst hv
      have x0 : w5.cell? ⟨w.heap.size, 0, none⟩ = some (.slice A X.length c) := (HB5.out.cell _).trans rfl
      go_wp2_with fail
      (try simp only [Exit.inBlock, Exit.then])
      refine bodyPost_ret (v := .tuple #[.slice A' k c', .bool true]) (by simp [results, Try.results78, go_sem, *]) rfl ?_
      unfold FvP
      rw [decide_eq_true HOK.out]
      rw [List.take_of_length_le (by rw [HVL.out]; exact Nat.le_refl _)] at ho
      exact ⟨A', c', fileVals D X f, by rw [HVL.out], fun _ => rfl, ho.rd.mono (fun _ _ _ => trivial), by rw [HVL.out]; exact hn6, HC5.out⟩
end Go.Proofs.Ytpiojofmflfkkaa
