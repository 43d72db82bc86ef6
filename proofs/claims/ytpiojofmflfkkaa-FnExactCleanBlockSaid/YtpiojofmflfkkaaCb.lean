/- FileSize, FileValues, tableFits of the program, on a device and a table that are valid. -/
import Derived.Test.YtpiojofmflfkkaaCa
import Derived.Test.YtpiojofmflfkkaaMb
namespace Go.Proofs.Ytpiojofmflfkkaa
open Go.RowKit
theorem fileVals_len (D : List Bk) (X : List (List Int)) (f : Nat) : (fileVals D X f).length = fsz X f 6 := by simp [fileVals]
theorem fileVals_get (D : List Bk) (X : List (List Int)) (f : Nat) {k : Nat} (h : k < (fileVals D X f).length) : (fileVals D X f)[k] = fval D X f k := by simp [fileVals]
/-- Where a row of a table lies. -/
theorem tab_row {F : Nat → Prop} {w : World} {A : Option Addr} {X : List (List Int)} (h : TabR F w A X) (hX : tabOk X) {f : Nat} (hf : f < 8) :
    ∃ (ad B : Addr) (c : Nat), A = some ad ∧ w.cell? (ad.add f) = some (.slice (some B) 6 c) ∧ ∀ p, p < 6 → w.cell? (B.add p) = some (.int .i64 (tget X f p)) := by
  have hfl : f < X.length := by rw [hX.1]; exact hf
  have h6 : X[f].length = 6 := (hX.2 f hfl).1
  obtain ⟨ad, B, c', rfl, hF, hcell, hrd, -⟩ := h f hfl
  obtain ⟨ad2, rfl, -, -, -⟩ := ints_at hrd (k := 0) (by omega)
  rw [h6] at hcell
  refine ⟨ad, ad2, c', rfl, hcell, fun p hp => ?_⟩
  obtain ⟨ad3, e, -, -, hc⟩ := ints_at hrd (k := p) (by omega)
  injection e with e
  subst e
  obtain ⟨h1, h2, h3⟩ := tget_get hX hf hp
  rw [hc, h3]
set_option maxRecDepth 100000 in
set_option maxHeartbeats 2000000 in
theorem iFileSize_any (F : Nat → Prop) (A : Option Addr) (c : Nat) (X : List (List Int)) (w : World) (h : TabR F w A X) (hX : tabOk X) (f : Nat) (hf : f < 8) :
    Calls Try.prog 100 #[.agg #[.slice A X.length c], .int .i64 f] w fun e w' => e = .returned (.int .i64 (fsz X f 6 : Nat)) ∧ Chg NoB w w' := by
  have hca := (Chg.refl NoB w).alloc (.cells #[.slice A X.length c] 31)
  have HB := Lib.hid (Blk.new w 31 #[.slice A X.length c])
  have HT := Lib.hid (h.lt.new hca)
  have HC := Lib.hid hca
  have HX := Lib.hid hX
  have HL8 := Lib.hid hX.1
  have i0 : (0 : Int) ≤ (f : Int) := Int.natCast_nonneg _
  have i1 : (f : Int) < 8 := by omega
  have i2 : ¬ ((f : Int) < 0) := by omega
  have i3 : ¬ ((8 : Int) ≤ (f : Int)) := by omega
  have HF := Lib.hid hf
  clear h hca hX hf
  go_enter Try.func100, Try.ntmps100
  go_wp2_with fail
  refine (iTableValid_any _ A c X _ HT.out).mono ?_
  rintro e w1 ⟨r, rfl, hr, hc1⟩
  obtain rfl : r = true := hr.2 HX.out
  have hb1 := HB.out.chg hc1 (fun x => x)
  have x0 : w1.cell? ⟨w.heap.size, 0, none⟩ = some (.slice A X.length c) := (hb1.cell _).trans rfl
  obtain ⟨ad, B, c', rfl, hcell, hrows⟩ := tab_row (HT.out.new hc1) HX.out HF.out
  have HROW := Lib.hid hrows
  have HC1 := Lib.hid (HC.out.trans hc1)
  rw [HL8.out] at x0 ⊢
  clear hr hb1 hc1 hrows
  go_wp2
  go_loopw [5, 25] (fun s i wr => ∃ k : Nat, k ≤ 6 ∧ i = .int .i64 k ∧ s = .int .i64 (fsz X f k : Nat) ∧ Chg NoB w1 wr) (fun _ i _ => 6 - (intOf i).toNat)
  case atStart => exact ⟨0, Nat.zero_le _, rfl, rfl, Chg.refl _ _⟩
  case round =>
    obtain ⟨k, hk, rfl, rfl, hch⟩ := hrel
    have HH := Lib.hid hch
    by_cases hlt : k < 6
    · have ck := hch.cell (HROW.out k hlt) (fun x => x)
      have HHIT := Lib.hid (fun hh => fsz_hit (X := X) (f := f) (k := k) hh)
      have HMISS := Lib.hid (fun hh => fsz_miss (X := X) (f := f) (k := k) hh)
      have k0 : (0 : Int) ≤ (k : Int) := Int.natCast_nonneg _
      have k1 : (k : Int) < 6 := by omega
      generalize tget X f k = x at ck HHIT HMISS
      clear hch
      by_cases hx : 0 ≤ x
      · have HS := Lib.hid (HHIT.out hx)
        go_wp2
        go_roundw
        case rel => exact ⟨k + 1, by omega, by go_num, by rw [HS.out]; go_num, HH.out⟩
        case measure => simp [intOf]; omega
      · have HS := Lib.hid (HMISS.out hx)
        go_wp2
        go_roundw
        case rel => exact ⟨k + 1, by omega, by go_num, by rw [HS.out], HH.out⟩
        case measure => simp [intOf]; omega
    · obtain rfl : k = 6 := by omega
      clear hch
      go_wp2
      go_ret
      exact ⟨rfl, HC1.out.trans HH.out⟩
/-- What FileValues gives. -/
def FvP (w : World) (D : List Bk) (X : List (List Int)) (f : Nat) (e : Ending) (w' : World) : Prop :=
  ∃ (A : Option Addr) (c : Nat) (xs : List Int), e = .returned (.tuple #[.slice A xs.length c, .bool (decide (fileOk D X f))]) ∧ (fileOk D X f → xs = fileVals D X f) ∧ Rd (fun _ => True) w' A (icells xs) ∧ xs.length ≤ 6 ∧ Chg NoB w w'
theorem FvP.no {w w' : World} {D : List Bk} {X : List (List Int)} {f : Nat} {A : Option Addr} {c : Nat} (h : ¬ fileOk D X f) (hc : Chg NoB w w') : FvP w D X f (.returned (.tuple #[.slice A 0 c, .bool false])) w' :=
  ⟨A, c, [], by rw [decide_eq_false h]; rfl, fun hh => absurd hh h, fun k v hk => by simp [icells] at hk, Nat.zero_le _, hc⟩
theorem refOk_read {D : List Bk} {X : List (List Int)} {f p : Nat} (hd : DvOk D) (h0 : 0 ≤ tget X f p) : refOk D X f p ↔ ((readPage D (tget X f p)).full = true ∧ (readPage D (tget X f p)).file = (f : Int) ∧ (readPage D (tget X f p)).place = (p : Int)) := by
  unfold refOk readPage
  by_cases h1 : tget X f p < 4 * (D.length : Int)
  · rw [if_pos ⟨hd, h0, h1⟩]
    exact ⟨fun h => ⟨(h h0).2.1, (h h0).2.2⟩, fun h _ => ⟨h1, h⟩⟩
  · rw [if_neg (fun hh => h1 hh.2.2)]
    exact ⟨fun h => absurd (h h0).1 h1, fun h => by cases h.1⟩
theorem readPage_at {D : List Bk} {X : List (List Int)} {f p : Nat} (hd : DvOk D) (h0 : 0 ≤ tget X f p) (h1 : tget X f p < 4 * (D.length : Int)) : readPage D (tget X f p) = pgAt D (tget X f p).toNat := if_pos ⟨hd, h0, h1⟩
theorem fv_next {D : List Bk} {X : List (List Int)} {f n k : Nat} (hn : (fileVals D X f).length = n) (hk : k < n) {v : Int} (hv : fval D X f k = v) : icells ((fileVals D X f).take (k + 1)) ++ reps (n - (k + 1)) [Value.int .i64 0] = icells ((fileVals D X f).take k) ++ Value.int .i64 v :: reps (n - (k + 1)) [Value.int .i64 0] := by
  rw [icells_take_succ _ k (by omega), fileVals_get, hv, List.append_assoc]
  rfl
theorem fv_room {n k : Nat} (hk : k < n) : reps (n - k) [Value.int .i64 0] = Value.int .i64 0 :: reps (n - (k + 1)) [Value.int .i64 0] := by
  rw [show n - k = n - (k + 1) + 1 by omega, reps_succ]
  rfl
theorem fv_take {D : List Bk} {X : List (List Int)} {f n k : Nat} (hn : (fileVals D X f).length = n) (hk : k < n) : (icells ((fileVals D X f).take k)).length = k := by
  rw [icells_length, List.length_take]; omega
theorem refOk_neg {D : List Bk} {X : List (List Int)} {f p : Nat} (h : tget X f p < 0) : refOk D X f p := fun h0 => by omega
theorem fval_neg {D : List Bk} {X : List (List Int)} {f p : Nat} (h : tget X f p < 0) : fval D X f p = 0 := if_pos h
theorem fval_read {D : List Bk} {X : List (List Int)} {f p : Nat} (hd : DvOk D) (h0 : ¬ tget X f p < 0) (hr : refOk D X f p) : fval D X f p = (readPage D (tget X f p)).value := by
  unfold fval
  rw [if_neg h0, readPage_at hd (by omega) (hr (by omega)).1]
theorem succ_below {P : Nat → Prop} {k : Nat} (h : ∀ p, p < k → P p) (h1 : P k) : ∀ p, p < k + 1 → P p := fun p hp => by
  by_cases he : p = k
  · subst he; exact h1
  · exact h p (by omega)
set_option maxRecDepth 100000 in
set_option maxHeartbeats 2000000 in
theorem iFileValues_any (F G : Nat → Prop) (A0 : Option Addr) (c0 : Nat) (D : List Bk) (A : Option Addr) (c : Nat) (X : List (List Int)) (w : World) (hr : DevR F w A0 D) (hd : DvOk D) (h : TabR G w A X) (hX : tabOk X) (f : Nat) (hf : f < 8) :
    Calls Try.prog 35 #[.slice A0 D.length c0, .agg #[.slice A X.length c], .int .i64 f] w (FvP w D X f) := by
  obtain ⟨j0, hj, hy0, hy1, hy2⟩ := info_parts info_int
  have hca := (Chg.refl NoB w).alloc (.cells #[.slice A X.length c] 31)
  have HB := Lib.hid (Blk.new w 31 #[.slice A X.length c])
  have HT0 := Lib.hid h.lt
  have HR0 := Lib.hid hr.lt
  have HC := Lib.hid hca
  have HX := Lib.hid hX
  have HD := Lib.hid hd
  have HL8 := Lib.hid hX.1
  have i0 : (0 : Int) ≤ (f : Int) := Int.natCast_nonneg _
  have i1 : (f : Int) < 8 := by omega
  have HF := Lib.hid hf
  obtain ⟨n, hn⟩ : ∃ n, fsz X f 6 = n := ⟨_, rfl⟩
  have HN := Lib.hid hn
  have hn6 : n ≤ 6 := by rw [← hn]; exact fsz_le X f 6
  have HREF := Lib.hid (fun (hh : ∀ p, p < n → refOk D X f p) => fileOk_size (D := D) (X := X) (f := f) (by rw [hn]; exact hh))
  have HVL := Lib.hid (show (fileVals D X f).length = n by rw [fileVals_len, hn])
  have HBAD := Lib.hid (show ∀ wq, Chg NoB w wq → (∃ p, p < 6 ∧ ¬ refOk D X f p) → FvP w D X f (.returned (.tuple #[.slice none 0 0, .bool false])) wq from fun wq h1 h2 => FvP.no (fun hh => by obtain ⟨p, hp, hq⟩ := h2; exact hq (hh p hp)) h1)
  have hmk : ∀ W, (Instr.makeSlice 24 (.int .i64 (n : Int)) (.int .i64 (n : Int))).run Try.prog W = .ok (.slice (some ⟨W.heap.size, 0, none⟩) n n) (W.alloc (.cells (reps n [.int .i64 0]).toArray 3)) :=
    fun W => run_make_reps (P := Try.prog) 24 3 j0 (.int .i64 0) [.int .i64 0] Try.underlying24 hj hy0 rfl hy1 n (by rw [hy2]; omega) (by omega) W
  have n0 : ¬ ((n : Int) < 0) := by omega
  clear h hca hX hd hf hr hn
  go_enter Try.func35, Try.ntmps35
  go_wp2_with fail
  refine (iFileSize_any _ A c X _ (HT0.out.new HC.out) HX.out f HF.out).mono ?_
  rintro e w1 ⟨rfl, hc1⟩
  rw [HN.out]
  have HB1 := Lib.hid (HB.out.chg hc1 (fun x => x))
  have HC1 := Lib.hid (HC.out.trans hc1)
  clear hc1
  go_wp2_with fail
  refine (iDeviceValid_t _ A0 c0 D _ (HR0.out.new HC1.out) HD.out).mono ?_
  rintro e w2 ⟨rfl, hc2⟩
  have hcb := (Chg.refl NoB w2).alloc (.cells (reps n [.int .i64 0]).toArray 3)
  have HV0 := Lib.hid (Blk.new w2 3 (reps n [.int .i64 0]).toArray)
  have HB3 := Lib.hid ((HB1.out.chg hc2 (fun x => x)).chg hcb (fun x => x))
  have HC3 := Lib.hid ((HC1.out.trans hc2).trans hcb)
  have HSV := Lib.hid (show w.heap.size < w2.heap.size from (HB1.out.chg hc2 (fun x => x)).lt)
  clear hc2 hcb
  go_wp2
  obtain ⟨V, hV⟩ : ∃ V, w2.heap.size = V := ⟨_, rfl⟩
  have hsv := HSV.out
  rw [hV] at HV0 hsv ⊢
  replace HSV := Lib.hid hsv
  clear hV hsv
  go_loopw [27] (fun i wr => ∃ k : Nat, k ≤ n ∧ i = .int .i64 k ∧ Chg NoB w wr ∧ Blk wr w.heap.size 31 #[.slice A X.length c] ∧ Blk wr V 3 (icells ((fileVals D X f).take k) ++ reps (n - k) [.int .i64 0]).toArray ∧ Hid (∀ p, p < k → refOk D X f p)) (fun i _ => n - (intOf i).toNat)
  case atStart => exact ⟨0, Nat.zero_le _, rfl, HC3.out, HB3.out, HV0.out, Lib.hid fun p hp => absurd hp (Nat.not_lt_zero p)⟩
  case round =>
    obtain ⟨k, hk, rfl, hch, hbt, hbv, hrf⟩ := hrel
    have HCH := Lib.hid hch
    have HBT := Lib.hid hbt
    have HBV := Lib.hid hbv
    have k0 : (0 : Int) ≤ (k : Int) := Int.natCast_nonneg _
    by_cases hlt : k < n
    · obtain ⟨ad, B, c', rfl, hcell, hrows⟩ := tab_row (HT0.out.new hch) HX.out HF.out
      have ck := hrows k (by omega)
      have x0 : wr.cell? ⟨w.heap.size, 0, none⟩ = some (.slice (some ad) 8 c) := by rw [← HL8.out]; exact (hbt.cell _).trans rfl
      have k1 : (k : Int) < 6 := by omega
      have k2 : (k : Int) < (n : Int) := by omega
      have HNEG := Lib.hid (fun hh => (⟨refOk_neg (D := D) (X := X) (f := f) (p := k) hh, fval_neg (D := D) hh⟩ : refOk D X f k ∧ fval D X f k = 0))
      have HPOS := Lib.hid (fun hh => refOk_read (D := D) (X := X) (f := f) (p := k) HD.out hh)
      have HVAL := Lib.hid (fun hh hq => fval_read (D := D) (X := X) (f := f) (p := k) HD.out hh hq)
      have HNX := Lib.hid (fun (v : Int) hv => fv_next (D := D) (X := X) (f := f) (v := v) HVL.out hlt hv)
      have HRO := Lib.hid (fv_room hlt)
      have HTK := Lib.hid (fv_take HVL.out hlt)
      generalize tget X f k = x at ck HNEG HPOS HVAL
      by_cases hx : x < 0
      · have HZ := Lib.hid (HNEG.out hx)
        clear hch hbt hbv hrows
        go_wp2_with fail
        go_roundw
        case rel =>
          refine ⟨k + 1, by omega, by go_num, HCH.out, HBT.out, ?_, Lib.hid (succ_below hrf.out HZ.out.1)⟩
          rw [HNX.out 0 HZ.out.2, ← HRO.out]
          exact HBV.out
        case measure => simp [intOf]; omega
      · have hx0 : 0 ≤ x := Int.not_lt.1 hx
        clear hch hbt hbv hrows
        go_wp2_with fail
        refine (iReadPage_any _ A0 c0 D x _ (HR0.out.new HCH.out)).mono ?_
        rintro e w4 ⟨rfl, hc4⟩
        have HPX := Lib.hid (HPOS.out hx0)
        have HVX := Lib.hid (HVAL.out hx)
        obtain ⟨⟨b, pf, pp, pv, ps⟩, hP⟩ : ∃ P, readPage D x = P := ⟨_, rfl⟩
        rw [hP] at HPX HVX ⊢
        have hca := (Chg.refl NoB w4).alloc (.cells #[.bool b, .int .i64 pf, .int .i64 pp, .int .i64 pv, .int .i64 ps] 80)
        have hpg := Blk.new w4 80 #[.bool b, .int .i64 pf, .int .i64 pp, .int .i64 pv, .int .i64 ps]
        have y1 := hpg.cell 1
        have y2 := hpg.cell 2
        have y3 := hpg.cell 3
        replace y1 := y1.trans (show _ = some (Value.int .i64 pf) from rfl)
        replace y2 := y2.trans (show _ = some (Value.int .i64 pp) from rfl)
        replace y3 := y3.trans (show _ = some (Value.int .i64 pv) from rfl)
        have HC5 := Lib.hid ((HCH.out.trans hc4).trans hca)
        have HBT5 := Lib.hid ((HBT.out.chg hc4 (fun x => x)).chg hca (fun x => x))
        have hbv5 := (HBV.out.chg hc4 (fun x => x)).chg hca (fun x => x)
        rw [HRO.out] at hbv5
        have hroom := hbv5.room HTK.out
        have hfr := hbv5.frozen k
        have HBV5 := Lib.hid (hbv5.fill1 HTK.out (.int .i64 pv))
        have HST := Lib.hid (show Chg (· = V) (w4.alloc (.cells #[.bool b, .int .i64 pf, .int .i64 pp, .int .i64 pv, .int .i64 ps] 80)) ((w4.alloc (.cells #[.bool b, .int .i64 pf, .int .i64 pp, .int .i64 pv, .int .i64 ps] 80)).setCell ⟨V, k, none⟩ (.int .i64 pv)) from (Chg.refl (· = V) _).setCell (p := ⟨V, k, none⟩) (.inl rfl) _)
        clear hpg hca hbv5 hc4 hP HNEG HPOS HVAL ck hcell
        cases b
        case false =>
          have HNO := Lib.hid (show ¬ refOk D X f k from fun hh => by have := (HPX.out.1 hh).1; cases this)
          go_wp2_with fail
          (try simp only [Exit.inBlock, Exit.then])
          refine bodyPost_ret (v := .tuple #[.slice none 0 0, .bool false]) (by simp [results, Try.results35, go_sem, *]) rfl ?_
          exact HBAD.out _ HC5.out ⟨k, by omega, HNO.out⟩
        case true =>
          by_cases hpf : pf = (f : Int)
          case neg =>
            have hb1 : (pf != (f : Int)) = true := bne_iff_ne.2 hpf
            have HNO := Lib.hid (show ¬ refOk D X f k from fun hh => hpf (HPX.out.1 hh).2.1)
            go_wp2_with fail
            (try simp only [Exit.inBlock, Exit.then])
            refine bodyPost_ret (v := .tuple #[.slice none 0 0, .bool false]) (by simp [results, Try.results35, go_sem, *]) rfl ?_
            exact HBAD.out _ HC5.out ⟨k, by omega, HNO.out⟩
          case pos =>
            by_cases hpp : pp = (k : Int)
            case neg =>
              have hb1 : (pf != (f : Int)) = false := bne_eq_false_iff_eq.2 hpf
              have hb2 : (pp != (k : Int)) = true := bne_iff_ne.2 hpp
              have HNO := Lib.hid (show ¬ refOk D X f k from fun hh => hpp (HPX.out.1 hh).2.2)
              clear hpf
              go_wp2_with fail
              (try simp only [Exit.inBlock, Exit.then])
              refine bodyPost_ret (v := .tuple #[.slice none 0 0, .bool false]) (by simp [results, Try.results35, go_sem, *]) rfl ?_
              exact HBAD.out _ HC5.out ⟨k, by omega, HNO.out⟩
            case pos =>
              have hb1 : (pf != (f : Int)) = false := bne_eq_false_iff_eq.2 hpf
              have hb2 : (pp != (k : Int)) = false := bne_eq_false_iff_eq.2 hpp
              have HYES := Lib.hid (show refOk D X f k from HPX.out.2 ⟨rfl, hpf, hpp⟩)
              have HVV := Lib.hid (show fval D X f k = pv from HVX.out HYES.out)
              clear hpf hpp
              go_wp2_with fail
              go_roundw
              case rel =>
                have hsv := HSV.out
                refine ⟨k + 1, by omega, by go_num, HC5.out.own HST.out (by omega), HBT5.out.chg HST.out (by omega), ?_, Lib.hid (succ_below hrf.out HYES.out)⟩
                rw [HNX.out pv HVV.out]
                exact HBV5.out
              case measure => simp [intOf]; omega
    · obtain rfl : k = n := by omega
      have HOK := Lib.hid (HREF.out hrf.out)
      clear hch hbt hbv
      go_wp2_with fail
      (try simp only [Exit.inBlock, Exit.then])
      refine bodyPost_ret (v := .tuple #[.slice (some ⟨V, 0, none⟩) k k, .bool true]) (by simp [results, Try.results35, go_sem, *]) rfl ?_
      have hb := HBV.out
      rw [Nat.sub_self, reps_zero, List.append_nil, List.take_of_length_le (by rw [HVL.out]; exact Nat.le_refl _)] at hb
      unfold FvP
      rw [decide_eq_true HOK.out]
      refine ⟨some ⟨V, 0, none⟩, k, fileVals D X f, by rw [HVL.out], fun _ => rfl, fun j v hj => ?_, by rw [HVL.out]; exact hn6, HCH.out⟩
      refine ⟨⟨V, 0, none⟩, rfl, trivial, ?_⟩
      rw [show (⟨V, 0, none⟩ : Addr).add j = ⟨V, j, none⟩ by unfold Addr.add; split <;> simp_all, hb.cell, List.getElem?_toArray]
      exact hj
set_option maxRecDepth 100000 in
set_option maxHeartbeats 2000000 in
theorem iTableFits_any (F G : Nat → Prop) (A0 : Option Addr) (c0 : Nat) (D : List Bk) (A : Option Addr) (c : Nat) (X : List (List Int)) (w : World) (hr : DevR F w A0 D) (hd : DvOk D) (h : TabR G w A X) (hX : tabOk X) :
    Calls Try.prog 85 #[.slice A0 D.length c0, .agg #[.slice A X.length c]] w (Says w (fits D X)) := by
  have hca := (Chg.refl NoB w).alloc (.cells #[.slice A X.length c] 31)
  have HB := Lib.hid (Blk.new w 31 #[.slice A X.length c])
  have HT0 := Lib.hid h.lt
  have HR0 := Lib.hid hr.lt
  have HC := Lib.hid hca
  have HX := Lib.hid hX
  have HD := Lib.hid hd
  clear h hca hX hd hr
  go_enter Try.func85, Try.ntmps85
  go_wp2
  go_loopw [8] (fun i wr => ∃ k : Nat, k ≤ 8 ∧ i = .int .i64 k ∧ Chg NoB w wr ∧ Blk wr w.heap.size 31 #[.slice A X.length c] ∧ Hid (∀ p, p < k → fileOk D X p)) (fun i _ => 8 - (intOf i).toNat)
  case atStart => exact ⟨0, Nat.zero_le _, rfl, HC.out, HB.out, Lib.hid fun p hp => absurd hp (Nat.not_lt_zero p)⟩
  case round =>
    obtain ⟨k, hk, rfl, hch, hbt, hok⟩ := hrel
    have HCH := Lib.hid hch
    have HBT := Lib.hid hbt
    by_cases hlt : k < 8
    · have x0 : wr.cell? ⟨w.heap.size, 0, none⟩ = some (.slice A X.length c) := (hbt.cell _).trans rfl
      have k1 : (k : Int) < 8 := by omega
      clear hch hbt
      go_wp2_with fail
      refine (iFileValues_any _ _ A0 c0 D A c X _ (HR0.out.new HCH.out) HD.out (HT0.out.new HCH.out) HX.out k hlt).mono ?_
      rintro e w4 ⟨A5, c5, xs, rfl, -, -, -, hc4⟩
      have HC4 := Lib.hid (HCH.out.trans hc4)
      have HBT4 := Lib.hid (HBT.out.chg hc4 (fun x => x))
      clear hc4
      by_cases hf : fileOk D X k
      · rw [decide_eq_true hf]
        have HF := Lib.hid hf
        clear hf
        go_wp2_with fail
        go_roundw
        case rel => exact ⟨k + 1, by omega, by go_num, HC4.out, HBT4.out, Lib.hid (succ_below hok.out HF.out)⟩
        case measure => simp [intOf]; omega
      · rw [decide_eq_false hf]
        have HF := Lib.hid hf
        clear hf
        go_wp2_with fail
        go_ret
        exact Says.no (fun hh => HF.out (hh k hlt)) HC4.out
    · obtain rfl : k = 8 := by omega
      clear hch hbt
      go_wp2_with fail
      go_ret
      exact Says.yes hok.out HCH.out
end Go.Proofs.Ytpiojofmflfkkaa
