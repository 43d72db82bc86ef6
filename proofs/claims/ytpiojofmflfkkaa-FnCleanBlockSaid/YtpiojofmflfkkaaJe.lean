/- Parts of the proof, merged: T, Ta, Tb, Tc, Tl, Tm, Tx, Tk, Zt, Ux, Uv, Zg, Zl, Tn, Tu, Tv. -/
import Derived.Test.YtpiojofmflfkkaaJa
import Derived.Test.YtpiojofmflfkkaaJb
import Derived.Test.YtpiojofmflfkkaaJl
import Derived.Test.YtpiojofmflfkkaaJd
import Derived.Deep.QuietTactic
import Derived.BigQuiet
import Derived.BigRegion
import Derived.IntWalk
/- Tables: what they read as, and TableValid of the program and of the reference. -/
namespace Go.Proofs.Ytpiojofmflfkkaa
open Go.RowKit
/-- The slice at A reads as the lists X; all of it lies in blocks of F. -/
def TabR (F : Nat → Prop) (w : World) (A : Option Addr) (X : List (List Int)) : Prop :=
  ∀ (k : Nat) (h : k < X.length), ∃ ad B c, A = some ad ∧ F ad.block ∧ w.cell? (ad.add k) = some (.slice B X[k].length c) ∧ Rd F w B (icells X[k]) ∧ X[k].length ≤ c
section
variable {F G : Nat → Prop} {w w' : World} {A : Option Addr} {X : List (List Int)}
theorem TabR.mono (h : TabR F w A X) (hg : ∀ i, i < w.heap.size → F i → G i) : TabR G w A X := fun k hk => by
  obtain ⟨ad, B, c, e, hf, hc, hr, h1⟩ := h k hk
  have := World.block_lt_of_cell? w _ hc
  rw [block_add] at this
  exact ⟨ad, B, c, e, hg _ this hf, hc, hr.mono hg, h1⟩
theorem TabR.lt (h : TabR F w A X) : TabR (fun i => F i ∧ i < w.heap.size) w A X := h.mono fun _ hi hf => ⟨hf, hi⟩
theorem TabR.chg (h : TabR F w A X) (hc : Chg G w w') (hd : ∀ i, F i → ¬ G i) : TabR F w' A X := fun k hk => by
  obtain ⟨ad, B, c, e, hf, hcell, hr, h1⟩ := h k hk
  exact ⟨ad, B, c, e, hf, hc.cell hcell (by rw [block_add]; exact hd _ hf), hr.chg hc hd, h1⟩
theorem TabR.new (h : TabR F w A X) (hc : Chg NoB w w') : TabR F w' A X := h.chg hc fun _ _ x => x
end
def rowOk (pre r : List Int) : Prop := r.length = 6 ∧ ∀ k (h : k < r.length), -1 ≤ r[k] ∧ r[k] ≤ 47 ∧ (0 ≤ r[k] → r[k] ∉ pre ++ r.take k)
def tabOk (X : List (List Int)) : Prop := X.length = 8 ∧ ∀ f (h : f < X.length), rowOk (X.take f).flatten X[f]
/-- Which numbers were seen. -/
def seenC (pre : List Int) : List Value := (List.range 48).map fun (j : Nat) => .bool (decide ((j : Int) ∈ pre))
theorem seenC_get (pre : List Int) (k : Nat) (h : k < 48) : (seenC pre)[k]? = some (.bool (decide ((k : Int) ∈ pre))) := by
  unfold seenC; rw [List.getElem?_map, List.getElem?_range h]; rfl
theorem seenC_length (pre : List Int) : (seenC pre).length = 48 := by simp [seenC]
theorem seenC_set (pre : List Int) (k : Nat) (_h : k < 48) : (seenC pre).toArray.setIfInBounds k (.bool true) = (seenC (pre ++ [(k : Int)])).toArray := by
  apply Array.ext'
  rw [Array.toList_setIfInBounds]
  apply List.ext_getElem?
  intro j
  rw [List.getElem?_set]
  simp only [seenC_length]
  by_cases hj : j < 48
  · rw [seenC_get _ _ hj, seenC_get _ _ hj]
    by_cases hkj : k = j
    · subst hkj; simp [hj]
    · simp only [hkj, if_false]
      have : ((j : Int) ∈ pre ++ [(k : Int)]) ↔ (j : Int) ∈ pre := by simp; omega
      simp only [this]
  · have h1 : ∀ p, (seenC p)[j]? = none := fun p => List.getElem?_eq_none (by rw [seenC_length]; omega)
    rw [h1, h1]
    by_cases hkj : k = j
    · omega
    · simp [hkj]
theorem seenC_neg (pre : List Int) (x : Int) (h : x < 0) : seenC (pre ++ [x]) = seenC pre := by
  unfold seenC
  apply List.map_congr_left
  intro j _
  have : ((j : Int) ∈ pre ++ [x]) ↔ (j : Int) ∈ pre := by simp; omega
  simp only [this]
theorem take_flat_succ (X : List (List Int)) (f : Nat) (h : f < X.length) : (X.take (f + 1)).flatten = (X.take f).flatten ++ X[f] := by
  rw [List.take_succ_eq_append_getElem h, List.flatten_append]; simp
theorem pageNumber_any (n : Int) (w : World) :
    Calls Try.prog 70 #[.int .i64 n] w fun e w' => e = .returned (.bool (decide (-1 ≤ n ∧ n ≤ 47))) ∧ w = w' := by
  go_enter Try.func70, Try.ntmps70
  by_cases h : -1 ≤ n
  all_goals by_cases h2 : n ≤ 47
  all_goals go_wp2
  all_goals go_ret
  all_goals exact ⟨ret_bool (by simp [*]; try omega), rfl⟩
theorem pageNumber_t (n : Int) (w : World) (h : -1 ≤ n ∧ n ≤ 47) : Calls Try.prog 70 #[.int .i64 n] w fun e w' => e = .returned (.bool true) ∧ w = w' :=
  (pageNumber_any n w).mono fun e w' ⟨he, hw⟩ => ⟨by rw [he, decide_eq_true h], hw⟩
theorem pageNumber_f (n : Int) (w : World) (h : ¬ (-1 ≤ n ∧ n ≤ 47)) : Calls Try.prog 70 #[.int .i64 n] w fun e w' => e = .returned (.bool false) ∧ w = w' :=
  (pageNumber_any n w).mono fun e w' ⟨he, hw⟩ => ⟨by rw [he, decide_eq_false h], hw⟩
/-- What is known of a row's first k numbers. -/
def rowTo (pre r : List Int) (k : Nat) : Prop := ∀ j (h : j < r.length), j < k → -1 ≤ r[j] ∧ r[j] ≤ 47 ∧ (0 ≤ r[j] → r[j] ∉ pre ++ r.take j)
def tabTo (X : List (List Int)) (f : Nat) : Prop := ∀ j (h : j < X.length), j < f → rowOk (X.take j).flatten X[j]
theorem rowTo_succ {pre r : List Int} {k : Nat} (h : k < r.length) (hr : rowTo pre r k) (h1 : -1 ≤ r[k]) (h2 : r[k] ≤ 47) (h3 : 0 ≤ r[k] → r[k] ∉ pre ++ r.take k) : rowTo pre r (k + 1) := fun j hj hjk => by
  by_cases he : j = k
  · subst he; exact ⟨h1, h2, h3⟩
  · exact hr j hj (by omega)
theorem tabTo_succ {X : List (List Int)} {f : Nat} (h : f < X.length) (hr : tabTo X f) (h1 : X[f].length = 6) (h2 : rowTo (X.take f).flatten X[f] X[f].length) : tabTo X (f + 1) := fun j hj hjk => by
  by_cases he : j = f
  · subst he; exact ⟨h1, fun k hk => h2 k hk hk⟩
  · exact hr j hj (by omega)
theorem seen_step (pre r : List Int) (k : Nat) (h : k < r.length) : pre ++ r.take (k + 1) = (pre ++ r.take k) ++ [r[k]] := by
  rw [List.take_succ_eq_append_getElem h, List.append_assoc]
set_option maxRecDepth 100000 in
set_option maxHeartbeats 2000000 in
theorem iTableValid_any (F : Nat → Prop) (A : Option Addr) (c : Nat) (X : List (List Int)) (w : World) (h : TabR F w A X) :
    Calls Try.prog 17 #[.agg #[.slice A X.length c]] w (Says w (tabOk X)) := by
  by_cases h8 : X.length = 8
  case neg =>
    go_enter Try.func17, Try.ntmps17
    go_wp2
    go_ret
    exact Says.no (fun hh => h8 hh.1) ((Chg.refl _ _).alloc _)
  obtain ⟨hb1, hb2, hcb⟩ := lit2 w 31 107 #[.slice A X.length c] (seenC []).toArray
  have hse : (seenC []).toArray = #[.bool false, .bool false, .bool false, .bool false, .bool false, .bool false, .bool false, .bool false, .bool false, .bool false, .bool false, .bool false, .bool false, .bool false, .bool false, .bool false, .bool false, .bool false, .bool false, .bool false, .bool false, .bool false, .bool false, .bool false, .bool false, .bool false, .bool false, .bool false, .bool false, .bool false, .bool false, .bool false, .bool false, .bool false, .bool false, .bool false, .bool false, .bool false, .bool false, .bool false, .bool false, .bool false, .bool false, .bool false, .bool false, .bool false, .bool false, .bool false] := by rfl
  rw [hse, h8] at hb1 hb2 hcb
  have HC0 := Lib.hid hcb
  have HB2 := Lib.hid (show Blk _ _ _ (seenC ([] ++ [])).toArray from hse ▸ hb2)
  clear hb1 hb2 hcb hse
  go_enter Try.func17, Try.ntmps17
  go_wp2
  go_loopw [15] (fun i wr => ∃ f : Nat, f ≤ 8 ∧ i = .int .i64 f ∧ Chg NoB w wr ∧ Blk wr (w.heap.size + 1) 107 (seenC (X.take f).flatten).toArray ∧ Hid (tabTo X f)) (fun i _ => 8 - (intOf i).toNat)
  case atStart => exact ⟨0, Nat.zero_le _, rfl, HC0.out, HB2.out, Lib.hid (fun j _ hj => by omega)⟩
  case round =>
    obtain ⟨f, hf8, rfl, hch, hb, hto⟩ := hrel
    by_cases hlt : f < 8
    · have hlt' : f < X.length := by omega
      obtain ⟨ad, B, c', rfl, hfF, hcell, hr, hc1⟩ := (h.lt.new hch) f hlt'
      have hi0 : (0 : Int) ≤ (f : Int) := Int.natCast_nonneg _
      have hi1 : (f : Int) < 8 := by omega
      by_cases h6 : X[f].length = 6
      case neg =>
        have h6' : ((X[f].length : Int) != 6) = true := by rw [bne_iff_ne]; omega
        have HC := Lib.hid hch
        clear hch hb hr
        go_wp2
        go_ret
        exact Says.no (fun hh => h6 (hh.2 f hlt').1) HC.out
      have HC := Lib.hid hch
      have HB := Lib.hid (show Blk wr (w.heap.size + 1) 107 (seenC ((X.take f).flatten ++ X[f].take 0)).toArray by simpa using hb)
      have HR := Lib.hid hr
      clear hch hb hr
      go_wp2
      go_loopw [24] (fun i wi => ∃ k : Nat, k ≤ 6 ∧ i = .int .i64 k ∧ Chg (· = w.heap.size + 1) wr wi ∧ Blk wi (w.heap.size + 1) 107 (seenC ((X.take f).flatten ++ X[f].take k)).toArray ∧ Hid (rowTo (X.take f).flatten X[f] k)) (fun i _ => 6 - (intOf i).toNat)
      case atStart => exact ⟨0, Nat.zero_le _, rfl, Chg.refl _ _, HB.out, Lib.hid (fun j _ hj => by omega)⟩
      case round =>
        obtain ⟨k, hk6, rfl, hch, hb, hrow⟩ := hrel
        by_cases hk : k < 6
        · have hk' : k < X[f].length := by omega
          obtain ⟨ad2, rfl, hf2, hbl2, hck⟩ := ints_at (HR.out.chg hch (fun i hi he => by have := hi.2; omega)) hk'
          have HST := Lib.hid (seen_step (X.take f).flatten X[f] k hk')
          have HRT := Lib.hid (rowTo_succ hk' hrow.out)
          have HBAD := Lib.hid (fun hq : tabOk X => (hq.2 f hlt').2 k hk')
          have HCI := Lib.hid hch
          have HCW := Lib.hid (HC.out.own hch (Nat.le_succ _))
          have hi2 : (0 : Int) ≤ (k : Int) := Int.natCast_nonneg _
          generalize X[f][k] = x at hck HST HRT HBAD
          by_cases hx : -1 ≤ x ∧ x ≤ 47
          case neg =>
            have HX := Lib.hid hx
            clear hx hch hb
            go_wp2_with fail
            refine (pageNumber_f x _ HX.out).mono ?_
            rintro e w' ⟨rfl, rfl⟩
            go_wp2
            go_ret
            exact Says.no (fun hq => HX.out ⟨(HBAD.out hq).1, (HBAD.out hq).2.1⟩) HCW.out
          have HX := Lib.hid hx
          obtain ⟨hx0, hx1⟩ := hx
          by_cases hneg : x < 0
          · have HB2 := Lib.hid hb
            clear hch hb
            go_wp2_with fail
            refine (pageNumber_t x _ HX.out).mono ?_
            rintro e w' ⟨rfl, rfl⟩
            go_wp2
            go_roundw
            case rel =>
              refine ⟨k + 1, by omega, by go_num, HCI.out, ?_, Lib.hid (HRT.out hx0 hx1 (fun h0 => by omega))⟩
              rw [HST.out, seenC_neg _ _ hneg]
              exact HB2.out
            case measure => simp [intOf]; omega
          · obtain ⟨n, rfl⟩ := Int.eq_ofNat_of_zero_le (show 0 ≤ x by omega)
            have hn : n < 48 := by omega
            have hcn : wr.cell? ⟨w.heap.size + 1, n, none⟩ = some (.bool (decide ((n : Int) ∈ (X.take f).flatten ++ X[f].take k))) := by
              rw [hb.cell, List.getElem?_toArray]; exact seenC_get _ n hn
            have hfr := hb.frozen n
            have HB2 := Lib.hid hb
            clear hb hch
            by_cases hm : (n : Int) ∈ (X.take f).flatten ++ X[f].take k
            · rw [decide_eq_true hm] at hcn
              have HM := Lib.hid hm
              clear hm
              go_wp2_with fail
              refine (pageNumber_t _ _ HX.out).mono ?_
              rintro e w' ⟨rfl, rfl⟩
              go_wp2
              go_ret
              exact Says.no (fun hq => (HBAD.out hq).2.2 (by omega) HM.out) HCW.out
            · rw [decide_eq_false hm] at hcn
              have HM := Lib.hid hm
              clear hm
              go_wp2_with fail
              refine (pageNumber_t _ _ HX.out).mono ?_
              rintro e w' ⟨rfl, rfl⟩
              go_wp2
              go_roundw
              case rel =>
                refine ⟨k + 1, by omega, by go_num, HCI.out.setCell (.inl rfl) _, ?_, Lib.hid (HRT.out hx0 hx1 (fun _ => HM.out))⟩
                rw [HST.out, ← seenC_set _ n hn]
                exact HB2.out.set_ n _
              case measure => simp [intOf]; omega
        · obtain rfl : k = 6 := by omega
          have HB2 := Lib.hid hb
          have HCW := Lib.hid (HC.out.own hch (Nat.le_succ _))
          clear hb hch
          go_wp2
          go_roundw
          case rel =>
            refine ⟨f + 1, by omega, by go_num, HCW.out, ?_, Lib.hid (tabTo_succ hlt' hto.out h6 (by rw [h6]; exact hrow.out))⟩
            rw [take_flat_succ X f hlt']
            have := HB2.out
            rwa [List.take_of_length_le (l := X[f]) (i := 6) (by omega)] at this
          case measure => simp [intOf]; omega
    · obtain rfl : f = 8 := by omega
      have HC := Lib.hid hch
      clear hch hb
      go_wp2
      go_ret
      exact Says.yes ⟨h8, fun j hj => hto.out j hj (by omega)⟩ HC.out
theorem info_bool : (Try.prog.info? 4).map (fun i => (i.zero, i.size, i.bytes)) = some (some (.bool false), 1, 1) := by kernel_rfl
theorem seenC_nil : seenC [] = reps 48 [.bool false] := by rfl
set_option maxRecDepth 100000 in
set_option maxHeartbeats 2000000 in
theorem sTableValid_any (F : Nat → Prop) (A : Option Addr) (c : Nat) (X : List (List Int)) (w : World) (h : TabR F w A X) (hl : X.length ≤ 9223372036854775807) (hX : ∀ r ∈ X, r.length ≤ 9223372036854775807) :
    Calls Try.prog 76 #[.agg #[.slice A X.length c]] w (Says w (tabOk X)) := by
  obtain ⟨i0, hi, hz0, hz1, hz2⟩ := info_parts info_bool
  have hmk : ∀ W, (Instr.makeSlice 157 (.int .i64 48) (.int .i64 48)).run Try.prog W = .ok (.slice (some ⟨W.heap.size, 0, none⟩) 48 48) (W.alloc (.cells (reps 48 [.bool false]).toArray 4)) := fun W => run_make_reps (P := Try.prog) 157 4 i0 (.bool false) [.bool false] Try.underlying157 hi hz0 rfl hz1 48 (by rw [hz2]; omega) (by omega) W
  obtain ⟨hb1, hb2, hcb⟩ := lit2 w 31 4 #[.slice A X.length c] (reps 48 [.bool false]).toArray
  have HC0 := Lib.hid hcb
  have HB1 := Lib.hid hb1
  have HB2 := Lib.hid (show Blk _ _ _ (seenC []).toArray from seenC_nil ▸ hb2)
  clear hb1 hb2 hcb
  go_enter Try.func76, Try.ntmps76
  go_wp2
  go_loopw [4] (fun i wr => ∃ f : Nat, f ≤ X.length ∧ i = .int .i64 f ∧ Chg NoB w wr ∧ wr.cell? ⟨w.heap.size, 0, none⟩ = some (.slice A X.length c) ∧ Blk wr (w.heap.size + 1) 4 (seenC (X.take f).flatten).toArray ∧ Hid (tabTo X f)) (fun i _ => X.length - (intOf i).toNat)
  case atStart => exact ⟨0, Nat.zero_le _, rfl, HC0.out, by rw [HB1.out.cell]; rfl, HB2.out, Lib.hid (fun j _ hj => by omega)⟩
  case round =>
    obtain ⟨f, hfl, rfl, hch, z0, hb, hto⟩ := hrel
    by_cases hlt : f < X.length
    · obtain ⟨ad, B, c', rfl, hfF, hcell, hr, hc1⟩ := (h.lt.new hch) f hlt
      have hi0 : (0 : Int) ≤ (f : Int) := Int.natCast_nonneg _
      have hi1 : (f : Int) < (X.length : Int) := by omega
      have hXf := hX _ (List.getElem_mem hlt)
      have HC := Lib.hid hch
      have HB := Lib.hid (show Blk wr (w.heap.size + 1) 4 (seenC ((X.take f).flatten ++ X[f].take 0)).toArray by simpa using hb)
      have HR := Lib.hid hr
      have HAD := Lib.hid (show ∀ wi, Chg (· = w.heap.size + 1) wr wi → wi.cell? (ad.add f) = some (.slice B X[f].length c') from fun wi hq => hq.cell hcell (by rw [block_add]; have := hfF.2; omega))
      have HZ := Lib.hid (show ∀ wi, Chg (· = w.heap.size + 1) wr wi → wi.cell? ⟨w.heap.size, 0, none⟩ = some (.slice (some ad) X.length c) from fun wi hq => hq.cell z0 (by simp))
      clear hch hb hr hcell
      go_wp2
      go_loopw [5] (fun i wi => ∃ k : Nat, k ≤ X[f].length ∧ i = .int .i64 k ∧ Chg (· = w.heap.size + 1) wr wi ∧ Blk wi (w.heap.size + 1) 4 (seenC ((X.take f).flatten ++ X[f].take k)).toArray ∧ Hid (rowTo (X.take f).flatten X[f] k)) (fun i _ => X[f].length - (intOf i).toNat)
      case atStart => exact ⟨0, Nat.zero_le _, rfl, Chg.refl _ _, HB.out, Lib.hid (fun j _ hj => by omega)⟩
      case round =>
        obtain ⟨k, hk6, rfl, hch, hb, hrow⟩ := hrel
        have hcell := HAD.out _ hch
        have z0 := HZ.out _ hch
        by_cases hk : k < X[f].length
        · obtain ⟨ad2, rfl, hf2, hbl2, hck⟩ := ints_at (HR.out.chg hch (fun i hi he => by have := hi.2; omega)) hk
          have HST := Lib.hid (seen_step (X.take f).flatten X[f] k hk)
          have HRT := Lib.hid (rowTo_succ hk hrow.out)
          have HBAD := Lib.hid (fun hq : tabOk X => (hq.2 f hlt).2 k hk)
          have HCI := Lib.hid hch
          have HCW := Lib.hid (HC.out.own hch (Nat.le_succ _))
          have hi2 : (0 : Int) ≤ (k : Int) := Int.natCast_nonneg _
          have hi3 : (k : Int) < (X[f].length : Int) := by omega
          generalize X[f][k] = x at hck HST HRT HBAD
          by_cases hx : -1 ≤ x ∧ x ≤ 47
          case neg =>
            have HX := Lib.hid hx
            clear hx hch hb
            go_wp2_with fail
            refine (l1In_f x _ _ _ HX.out).mono ?_
            rintro e w' ⟨rfl, rfl⟩
            go_wp2
            go_ret
            exact Says.no (fun hq => HX.out ⟨(HBAD.out hq).1, (HBAD.out hq).2.1⟩) HCW.out
          have HX := Lib.hid hx
          obtain ⟨hx0, hx1⟩ := hx
          by_cases hneg : x < 0
          · have HB2 := Lib.hid hb
            clear hch hb
            go_wp2_with fail
            refine (l1In_t x _ _ _ HX.out).mono ?_
            rintro e w' ⟨rfl, rfl⟩
            go_wp2
            go_roundw
            case rel =>
              refine ⟨k + 1, by omega, by go_num, HCI.out, ?_, Lib.hid (HRT.out hx0 hx1 (fun h0 => by omega))⟩
              rw [HST.out, seenC_neg _ _ hneg]
              exact HB2.out
            case measure => simp [intOf]; omega
          · obtain ⟨n, rfl⟩ := Int.eq_ofNat_of_zero_le (show 0 ≤ x by omega)
            have hn : n < 48 := by omega
            have hcn : wr.cell? ⟨w.heap.size + 1, n, none⟩ = some (.bool (decide ((n : Int) ∈ (X.take f).flatten ++ X[f].take k))) := by
              rw [hb.cell, List.getElem?_toArray]; exact seenC_get _ n hn
            have hfr := hb.frozen n
            have HB2 := Lib.hid hb
            clear hb hch
            by_cases hm : (n : Int) ∈ (X.take f).flatten ++ X[f].take k
            · rw [decide_eq_true hm] at hcn
              have HM := Lib.hid hm
              clear hm
              go_wp2_with fail
              refine (l1In_t _ _ _ _ HX.out).mono ?_
              rintro e w' ⟨rfl, rfl⟩
              go_wp2
              go_ret
              exact Says.no (fun hq => (HBAD.out hq).2.2 (by omega) HM.out) HCW.out
            · rw [decide_eq_false hm] at hcn
              have HM := Lib.hid hm
              clear hm
              go_wp2_with fail
              refine (l1In_t _ _ _ _ HX.out).mono ?_
              rintro e w' ⟨rfl, rfl⟩
              go_wp2
              go_roundw
              case rel =>
                refine ⟨k + 1, by omega, by go_num, HCI.out.setCell (.inl rfl) _, ?_, Lib.hid (HRT.out hx0 hx1 (fun _ => HM.out))⟩
                rw [HST.out, ← seenC_set _ n hn]
                exact HB2.out.set_ n _
              case measure => simp [intOf]; omega
        · have hkl : k = X[f].length := by omega
          subst hkl
          have HB2 := Lib.hid hb
          have HCW := Lib.hid (HC.out.own hch (Nat.le_succ _))
          clear hb hch
          by_cases h6 : X[f].length = 6
          · have h6' : ((X[f].length : Int) != 6) = false := by rw [bne_eq_false_iff_eq]; omega
            have H6 := Lib.hid h6
            clear h6
            go_wp2
            go_roundw
            case rel =>
              refine ⟨f + 1, by omega, by go_num, HCW.out, z0, ?_, Lib.hid (tabTo_succ hlt hto.out H6.out hrow.out)⟩
              rw [take_flat_succ X f hlt]
              have := HB2.out
              rwa [List.take_length] at this
            case measure => simp [intOf]; omega
          · have h6' : ((X[f].length : Int) != 6) = true := by rw [bne_iff_ne]; omega
            have H6 := Lib.hid h6
            clear h6
            go_wp2
            go_ret
            exact Says.no (fun hh => H6.out (hh.2 f hlt).1) HCW.out
    · have hfx : f = X.length := by omega
      subst hfx
      have HC := Lib.hid hch
      clear hch hb
      go_wp2
      go_ret
      refine Says.both ?_ HC.out
      constructor
      · intro h8; exact ⟨by have := of_decide_eq_true h8; omega, fun j hj => hto.out j hj hj⟩
      · intro h8; exact decide_eq_true (by have := h8.1; omega)
end Go.Proofs.Ytpiojofmflfkkaa
/- Tables that a call has built; the laws' helpers on tables. -/
namespace Go.Proofs.Ytpiojofmflfkkaa
open Go.RowKit
/-- A list of a table: its block, its room, its numbers. -/
structure RowO where
  g : Nat
  c : Nat
  xs : List Int
  rest : List Value
def RowO.cell (r : RowO) : Value := .slice (some ⟨r.g, 0, none⟩) r.xs.length r.c
def RowO.ok (B E : Nat) (w : World) (r : RowO) : Prop := B ≤ r.g ∧ r.g < E ∧ Blk w r.g 3 (icells r.xs ++ r.rest).toArray ∧ r.xs.length ≤ r.c
def RowsO (B E : Nat) (w : World) (T : List RowO) : Prop := (∀ r ∈ T, r.ok B E w) ∧ (T.map (·.g)).Nodup
def listsOf (T : List RowO) : List (List Int) := T.map (·.xs)
def TabO (B E : Nat) (w : World) (A : Option Addr) (c : Nat) (T : List RowO) : Prop := OwnS B E w 24 A T.length c (T.map RowO.cell) ∧ RowsO B E w T
theorem ty_ne : (3 : Nat) ≠ 24 := by decide
theorem Blk.ty {w : World} {g : Nat} {t t' : TypeId} {cs cs' : Array Value} (h : Blk w g t cs) (h' : Blk w g t' cs') : t = t' := by
  unfold Blk at h h'
  rw [h] at h'
  injection h' with h'
  injection h'
section
variable {F : Nat → Prop} {w w' : World} {B E B' E' : Nat} {T : List RowO} {A : Option Addr} {c : Nat}
theorem RowO.ok.chg {r : RowO} (h : r.ok B E w) (hc : Chg F w w') (hf : ¬ F r.g) : r.ok B E w' := ⟨h.1, h.2.1, h.2.2.1.chg hc hf, h.2.2.2⟩
theorem RowsO.nil (B E : Nat) (w : World) : RowsO B E w [] := ⟨fun _ h => absurd h (by simp), List.nodup_nil⟩
theorem RowsO.chg (h : RowsO B E w T) (hc : Chg F w w') (hf : ∀ i, B ≤ i → i < E → ¬ F i) : RowsO B E w' T := ⟨fun r hr => (h.1 r hr).chg hc (hf _ (h.1 r hr).1 (h.1 r hr).2.1), h.2⟩
theorem RowsO.new (h : RowsO B E w T) (hc : Chg NoB w w') : RowsO B E w' T := h.chg hc fun _ _ _ x => x
theorem RowsO.more (h : RowsO B E w T) (hB : B' ≤ B) (hE : E ≤ E') : RowsO B' E' w T := ⟨fun r hr => by obtain ⟨h1, h2, h3⟩ := h.1 r hr; exact ⟨Nat.le_trans hB h1, Nat.lt_of_lt_of_le h2 hE, h3⟩, h.2⟩
theorem RowsO.snoc (h : RowsO B E w T) {r : RowO} (hr : r.ok B E' w) (hE : E ≤ r.g) : RowsO B E' w (T ++ [r]) := by
  refine ⟨fun q hq => ?_, ?_⟩
  · rcases List.mem_append.1 hq with h1 | h1
    · obtain ⟨a, b, d⟩ := h.1 q h1
      exact ⟨a, Nat.lt_of_lt_of_le b (Nat.le_trans hE (Nat.le_of_lt hr.2.1)), d⟩
    · simp at h1; subst h1; exact hr
  · rw [List.map_append, List.nodup_append]
    refine ⟨h.2, by simp, fun a ha b hb => ?_⟩
    simp at hb
    obtain ⟨q, hq, rfl⟩ := List.mem_map.1 ha
    have := (h.1 q hq).2.1
    omega
theorem TabO.chg (h : TabO B E w A c T) (hc : Chg F w w') (hf : ∀ i, B ≤ i → i < E → ¬ F i) : TabO B E w' A c T := ⟨h.1.chg hc hf, h.2.chg hc hf⟩
theorem TabO.new (h : TabO B E w A c T) (hc : Chg NoB w w') : TabO B E w' A c T := h.chg hc fun _ _ _ x => x
theorem TabO.more (h : TabO B E w A c T) (hB : B' ≤ B) (hE : E ≤ E') : TabO B' E' w A c T := ⟨h.1.more hB hE, h.2.more hB hE⟩
theorem RowO.ok.rd {r : RowO} (h : r.ok B E w) : Rd (fun i => B ≤ i ∧ i < E) w (some ⟨r.g, 0, none⟩) (icells r.xs) := fun k v hk => by
  have h1 := (h.2.2.1.rd) k v (by rw [List.getElem?_append_left (List.getElem?_eq_some_iff.1 hk).1]; exact hk)
  obtain ⟨ad, e, hf, hc⟩ := h1
  refine ⟨ad, e, ?_, hc⟩
  rw [hf]
  exact ⟨h.1, h.2.1⟩
theorem TabO.reads (h : TabO B E w A c T) : TabR (fun i => B ≤ i ∧ i < E) w A (listsOf T) := fun k hk => by
  have hk' : k < T.length := by simpa [listsOf] using hk
  obtain ⟨ad, e, hf, _, hc⟩ := h.1.rd.at_ (k := k) (by simpa using hk')
  rw [List.getElem_map] at hc
  have hok := h.2.1 T[k] (List.getElem_mem hk')
  have e1 : (listsOf T)[k] = T[k].xs := by simp [listsOf]
  refine ⟨ad, some ⟨T[k].g, 0, none⟩, T[k].c, e, hf, ?_, ?_, ?_⟩
  · rw [e1]; exact hc
  · rw [e1]; exact hok.rd
  · rw [e1]; exact hok.2.2.2
theorem TabO.nil (B E : Nat) (w : World) (A : Option Addr) (c : Nat) : TabO B E w A c [] := ⟨OwnS.empty _ _ _ _ _ _, RowsO.nil _ _ _⟩
end
theorem listsOf_length (T : List RowO) : (listsOf T).length = T.length := by simp [listsOf]
def lensTo (X : List (List Int)) (k : Nat) : Nat := X.length + ((X.take k).map List.length).sum
def total (X : List (List Int)) : Nat := X.length + (X.map List.length).sum
theorem lensTo_succ (X : List (List Int)) (k : Nat) (h : k < X.length) : lensTo X (k + 1) = lensTo X k + X[k].length := by
  unfold lensTo; rw [List.take_succ_eq_append_getElem h, List.map_append, List.sum_append]; simp; omega
theorem lensTo_le (X : List (List Int)) (k : Nat) : lensTo X k ≤ total X := by
  unfold lensTo total
  have : (X.map List.length).sum = ((X.take k).map List.length).sum + ((X.drop k).map List.length).sum := by
    rw [← List.sum_append, ← List.map_append, List.take_append_drop]
  omega
theorem total_row (X : List (List Int)) (k : Nat) (h : k < X.length) : X[k].length ≤ total X := by
  have := lensTo_succ X k h
  have := lensTo_le X (k + 1)
  omega
end Go.Proofs.Ytpiojofmflfkkaa
/- The laws' helpers on tables: copies, comparisons, marks. -/
namespace Go.Proofs.Ytpiojofmflfkkaa
open Go.RowKit
theorem quiet_left2 {P : Program} {f : FuncId} {args : Array Value} {w : World} {n : Nat} {v : Value}
    (h : Calls P f args (w.drewN n) fun e w' => e = .returned v ∧ ∃ m, w' = (w.drewN n).drewN m) : Calls P f args (w.drewN n) fun e w'' => e = .returned v ∧ ∃ m, w'' = w.drewN m :=
  h.mono fun _ _ ⟨he, m, hm⟩ => ⟨he, n + m, by rw [hm]; simp [World.drewN, Nat.add_assoc]⟩
theorem rows_mark {T : List RowO} {B E k : Nat} {w w' : World} {rest' : List Value} {ys : List Int} (h : RowsO B E w T) (hk : k < T.length) (hc : Chg (fun i => T[k].g ≤ i ∧ i < T[k].g + 1) w w') (hl : ys.length = T[k].xs.length)
    (hb : Blk w' T[k].g 3 (icells ys ++ rest').toArray) : RowsO B E w' (T.set k ⟨T[k].g, T[k].c, ys, rest'⟩) := by
  have hg : (T.set k ⟨T[k].g, T[k].c, ys, rest'⟩).map (·.g) = T.map (·.g) := by
    rw [List.map_set]
    apply List.ext_getElem?
    intro j
    rw [List.getElem?_set]
    by_cases hj : k = j
    · subst hj; simp [hk]
    · simp [hj]
  refine ⟨fun r hr => ?_, by rw [hg]; exact h.2⟩
  obtain ⟨j, hj, rfl⟩ := List.getElem_of_mem hr
  have hj' : j < T.length := by simpa using hj
  rw [List.getElem_set]
  split
  · have ho := h.1 _ (List.getElem_mem hk)
    exact ⟨ho.1, ho.2.1, hb, by simp only; rw [hl]; exact ho.2.2.2⟩
  · rename_i hne
    refine (h.1 _ (List.getElem_mem hj')).chg hc fun hh => ?_
    have he : T[j].g = T[k].g := by omega
    have := h.2
    rw [List.nodup_iff_pairwise_ne, List.pairwise_iff_getElem] at this
    rcases Nat.lt_or_ge j k with h1 | h1
    · exact this j k (by simpa using hj') (by simpa using hk) h1 (by simpa using he)
    · exact this k j (by simpa using hk) (by simpa using hj') (by omega) (by simpa using he.symm)
theorem rows_cell {T : List RowO} {k : Nat} {ys : List Int} {rest' : List Value} (hk : k < T.length) (hl : ys.length = T[k].xs.length) : (T.set k ⟨T[k].g, T[k].c, ys, rest'⟩).map RowO.cell = T.map RowO.cell := by
  apply List.ext_getElem?
  intro j
  rw [List.map_set, List.getElem?_set]
  by_cases hj : k = j
  · subst hj; simp [hk, RowO.cell, hl]
  · simp [hj]
theorem rows_lists {T : List RowO} {k : Nat} {r : RowO} : listsOf (T.set k r) = (listsOf T).set k r.xs := by simp [listsOf, List.map_set]
end Go.Proofs.Ytpiojofmflfkkaa
/- New tables and copies of tables. -/
namespace Go.Proofs.Ytpiojofmflfkkaa
open Go.RowKit
theorem info_ints' : (Try.prog.info? 24).map (fun i => (i.zero, i.size, i.bytes)) = some (some (.slice none 0 0), 1, 24) := by kernel_rfl
def emptyRows (f : Nat) : List (List Int) := List.replicate f (List.replicate 6 (-1))
theorem cells_snoc' (T : List RowO) (r : RowO) : (T ++ [r]).map RowO.cell = T.map RowO.cell ++ [r.cell] := by simp
theorem lists_snoc (T : List RowO) (r : RowO) : listsOf (T ++ [r]) = listsOf T ++ [r.xs] := by simp [listsOf]
theorem icells_snoc' (ys : List Int) (y : Int) : icells (ys ++ [y]) = icells ys ++ [Value.int .i64 y] := by simp [icells]
set_option maxRecDepth 100000 in
set_option maxHeartbeats 4000000 in
theorem emptyTable_any (w : World) :
    Calls Try.prog 71 #[] w fun e w' => ∃ g T, e = .returned (.agg #[.slice (some ⟨g, 0, none⟩) 8 8]) ∧ listsOf T = emptyRows 8 ∧ Chg NoB w w' ∧ TabO w.heap.size w'.heap.size w' (some ⟨g, 0, none⟩) 8 T := by
  obtain ⟨i0, hi, hz0, hz1, hz2⟩ := info_parts info_ints'
  obtain ⟨j0, hj, hy0, hy1, hy2⟩ := info_parts info_int
  have hmk : ∀ W, (Instr.makeSlice 29 (.int .i64 8) (.int .i64 8)).run Try.prog W = .ok (.slice (some ⟨W.heap.size, 0, none⟩) 8 8) (W.alloc (.cells (reps 8 [.slice none 0 0]).toArray 24)) :=
    fun W => run_make_reps (P := Try.prog) 29 24 i0 (.slice none 0 0) [.slice none 0 0] Try.underlying29 hi hz0 rfl hz1 8 (by rw [hz2]; omega) (by omega) W
  have hmk6 : ∀ W, (Instr.makeSlice 24 (.int .i64 6) (.int .i64 6)).run Try.prog W = .ok (.slice (some ⟨W.heap.size, 0, none⟩) 6 6) (W.alloc (.cells (reps 6 [.int .i64 0]).toArray 3)) :=
    fun W => run_make_reps (P := Try.prog) 24 3 j0 (.int .i64 0) [.int .i64 0] Try.underlying24 hj hy0 rfl hy1 6 (by rw [hy2]; omega) (by omega) W
  obtain ⟨q1, q2, q3⟩ := lit2 (w.alloc (.cells #[.slice none 0 0] 31)) 24 31 (reps 8 [.slice none 0 0]).toArray #[.slice (some ⟨w.heap.size + 1, 0, none⟩) 8 8]
  rw [World.size_alloc] at q1 q2
  have Q0 := Lib.hid ((Blk.new w 31 #[.slice none 0 0]).chg q3 (fun x => x))
  have Q1 := Lib.hid q1
  have Q2 := Lib.hid q2
  have Q3 := Lib.hid (((Chg.refl NoB w).alloc (.cells #[.slice none 0 0] 31)).trans q3)
  clear q1 q2 q3
  go_enter Try.func71, Try.ntmps71
  go_wp2
  go_loopw [9] (fun i wr => ∃ (f : Nat) (T : List RowO), f ≤ 8 ∧ i = .int .i64 f ∧ Chg NoB w wr ∧ Blk wr w.heap.size 31 #[.slice none 0 0] ∧ Blk wr (w.heap.size + 1 + 1) 31 #[.slice (some ⟨w.heap.size + 1, 0, none⟩) 8 8] ∧ Hid (listsOf T = emptyRows f) ∧ RowsO (w.heap.size + 1 + 1 + 1) wr.heap.size wr T ∧ Blk wr (w.heap.size + 1) 24 (T.map RowO.cell ++ reps (8 - f) [.slice none 0 0]).toArray) (fun i _ => 8 - (intOf i).toNat)
  case atStart => exact ⟨0, [], Nat.zero_le _, rfl, Q3.out, Q0.out, Q2.out, Lib.hid rfl, RowsO.nil _ _ _, Q1.out⟩
  case round =>
    obtain ⟨wo, rfl⟩ : ∃ wo, wo = wr := ⟨_, rfl⟩
    obtain ⟨f, T, hf8, rfl, hch, hbr, hbv, hT, hrows, hb⟩ := hrel
    have hTl : T.length = f := by have := congrArg List.length hT.out; rw [listsOf_length, emptyRows, List.length_replicate] at this; exact this
    have v0 : wo.cell? ⟨w.heap.size + 1 + 1, 0, none⟩ = some (.slice (some ⟨w.heap.size + 1, 0, none⟩) 8 8) := (hbv.cell _).trans rfl
    have HC := Lib.hid hch
    have HBR := Lib.hid hbr
    have HBV := Lib.hid hbv
    have HRW := Lib.hid hrows
    by_cases hlt : f < 8
    · obtain ⟨r, hr⟩ : ∃ r, 8 - f = r + 1 := ⟨8 - f - 1, by omega⟩
      rw [hr, reps_succ] at hb
      have hlenT : (T.map RowO.cell).length = f := by rw [List.length_map, hTl]
      have hroom := hb.room hlenT
      have hfr := hb.frozen f
      have HB := Lib.hid hb
      have HR := Lib.hid hr
      have hi0 : (0 : Int) ≤ (f : Int) := Int.natCast_nonneg _
      have hi1 : (f : Int) < 8 := by omega
      have hGl := hb.lt
      have HGL := Lib.hid hGl
      clear hch hbr hbv hrows hb hr
      have hca := (Chg.refl NoB wo).alloc (.cells (reps 6 [.int .i64 0]).toArray 3)
      have v0a := hca.cell v0 (fun x => x)
      have hrooma := hca.cell hroom (fun x => x)
      have hfra := (HB.out.chg hca (fun x => x)).frozen f
      have hbn := Lib.hid (Blk.new wo 3 (reps 6 [.int .i64 0]).toArray)
      have HCA := Lib.hid hca
      clear hca
      go_wp2
      go_region
      obtain ⟨w5, hw5⟩ : ∃ w5, ((wo.setCell ⟨w.heap.size + 1, f, none⟩ (.slice (some ⟨wo.heap.size, 0, none⟩) 6 6)).alloc (.cells (reps 6 [.int .i64 0]).toArray 3)).drew = w5 := ⟨_, rfl⟩
      rw [hw5]
      have hss : (wo.setCell ⟨w.heap.size + 1, f, none⟩ (.slice (some ⟨wo.heap.size, 0, none⟩) 6 6)).heap.size = wo.heap.size := by simp [World.setCell]
      have hc5 : Chg (· = w.heap.size + 1) wo w5 := by rw [← hw5]; exact (((Chg.refl (· = w.heap.size + 1) wo).setCell (p := ⟨w.heap.size + 1, f, none⟩) (.inl rfl) _).alloc _).drew
      have hb5 : Blk w5 (w.heap.size + 1) 24 (T.map RowO.cell ++ Value.slice (some ⟨wo.heap.size, 0, none⟩) 6 6 :: ([].append (reps r [.slice none 0 0]))).toArray := by
        rw [← hw5]
        exact ((HB.out.fill1 hlenT (.slice (some ⟨wo.heap.size, 0, none⟩) 6 6)).chg ((Chg.refl NoB _).alloc _) (fun x => x)).chg ((Chg.refl NoB _).drew) (fun x => x)
      have hn5 : Blk w5 wo.heap.size 3 (reps 6 [.int .i64 0]).toArray := by
        have h1 := Blk.new (wo.setCell ⟨w.heap.size + 1, f, none⟩ (.slice (some ⟨wo.heap.size, 0, none⟩) 6 6)) 3 (reps 6 [.int .i64 0]).toArray
        rw [hss] at h1
        rw [← hw5]
        exact h1.chg (F := NoB) ((Chg.refl NoB _).drew) (fun x => x)
      have hsz5 : w5.heap.size = wo.heap.size + 1 := by rw [← hw5]; simp [World.drew, World.setCell]
      clear hw5 hss
      have v5 := hc5.cell v0 (by simp)
      have hhd : w5.cell? ⟨w.heap.size + 1, f, none⟩ = some (.slice (some ⟨wo.heap.size, 0, none⟩) 6 6) := hb5.room hlenT
      have HC5 := Lib.hid (HC.out.trans' hc5 (fun i hi => .inr (by omega)))
      have HD5 := Lib.hid hc5
      have HB5 := Lib.hid hb5
      have HN5 := Lib.hid hn5
      have HS5 := Lib.hid hsz5
      have HBR5 := Lib.hid (HBR.out.chg hc5 (by omega))
      have HBV5 := Lib.hid (HBV.out.chg hc5 (by omega))
      clear hc5 hb5 hn5 hsz5 v0a hrooma hfra v0 hroom hfr
      go_wp2
      go_loopw [23] (fun i w6 => ∃ k : Nat, k ≤ 6 ∧ i = .int .i64 k ∧ Chg (· = wo.heap.size) w5 w6 ∧ Blk w6 wo.heap.size 3 (icells (List.replicate k (-1)) ++ reps (6 - k) [.int .i64 0]).toArray) (fun i _ => 6 - (intOf i).toNat)
      case atStart => exact ⟨0, Nat.zero_le _, rfl, Chg.refl _ _, HN5.out⟩
      case round =>
        obtain ⟨k, hk6, rfl, hch, hb⟩ := hrel
        have y0 := hch.cell v5 (by simp; have := HBV.out.lt; omega)
        have y1 := hch.cell hhd (by simp; have := HGL.out; omega)
        have HCH := Lib.hid hch
        by_cases hk : k < 6
        · obtain ⟨r', hr'⟩ : ∃ r', 6 - k = r' + 1 := ⟨6 - k - 1, by omega⟩
          rw [hr', reps_succ] at hb
          have hlk : (icells (List.replicate k (-1))).length = k := by rw [icells_length, List.length_replicate]
          have hroom := hb.room hlk
          have hfr := hb.frozen k
          have HF := Lib.hid (hb.fill1 hlk (.int .i64 (-1)))
          have HR' := Lib.hid hr'
          have hk0 : (0 : Int) ≤ (k : Int) := Int.natCast_nonneg _
          clear hb hch hr' hlk
          go_wp2
          go_roundw
          case rel =>
            refine ⟨k + 1, by omega, by go_num, HCH.out.setCell (.inl rfl) _, ?_⟩
            have e1 : icells (List.replicate (k + 1) (-1)) = icells (List.replicate k (-1)) ++ [.int .i64 (-1)] := by rw [List.replicate_succ', ← icells_snoc']
            rw [e1, List.append_assoc, show 6 - (k + 1) = r' by have := HR'.out; omega]
            exact HF.out
          case measure => simp [intOf]; omega
        · obtain rfl : k = 6 := by omega
          have HB6 := Lib.hid hb
          clear hb hch
          go_wp2
          go_roundw
          case rel =>
            have hb6 := HB6.out
            rw [Nat.sub_self, reps_zero] at hb6
            have hok : RowO.ok (w.heap.size + 1 + 1 + 1) wo.heap.size.succ _ ⟨wo.heap.size, 6, List.replicate 6 (-1), []⟩ := ⟨by show w.heap.size + 1 + 1 + 1 ≤ wo.heap.size; have := HBV.out.lt; omega, Nat.lt_succ_self _, hb6, by simp⟩
            have hsz6 := HCH.out.size
            refine ⟨f + 1, T ++ [⟨wo.heap.size, 6, List.replicate 6 (-1), []⟩], by omega, by go_num, HC5.out.own HCH.out HC.out.size, HBR5.out.chg HCH.out (by have := HBR.out.lt; omega), HBV5.out.chg HCH.out (by have := HBV.out.lt; omega), Lib.hid ?_, ?_, ?_⟩
            · rw [lists_snoc, hT.out]
              unfold emptyRows
              rw [← List.replicate_succ']
            · have h1 := (((HRW.out.chg HD5.out (fun i h1 h2 => by omega)).chg HCH.out (fun i h1 h2 => by omega)).snoc hok (Nat.le_refl _))
              exact h1.more (Nat.le_refl _) (by have := HS5.out; omega)
            · rw [cells_snoc', List.append_assoc, show 8 - (f + 1) = r by have := HR.out; omega]
              exact HB5.out.chg HCH.out (by omega)
          case measure => simp [intOf]; omega
    · obtain rfl : f = 8 := by omega
      have hr0 : wo.cell? ⟨w.heap.size, 0, none⟩ = some (.slice none 0 0) := (hbr.cell _).trans rfl
      have hrf := hbr.frozen 0
      rw [Nat.sub_self, reps_zero, List.append_nil] at hb
      have HB := Lib.hid hb
      have hlt1 := hbv.lt
      clear hch hbr hbv hrows hb
      go_wp2_with fail
      (try simp only [Exit.inBlock, Exit.then])
      refine bodyPost_ret (v := .agg #[.slice (some ⟨w.heap.size + 1, 0, none⟩) 8 8]) (by simp [results, Try.results71, go_sem, *]) rfl ?_
      have hcs : Chg (· = w.heap.size) wo (wo.setCell ⟨w.heap.size, 0, none⟩ (.slice (some ⟨w.heap.size + 1, 0, none⟩) 8 8)) := (Chg.refl (· = w.heap.size) wo).setCell (p := ⟨w.heap.size, 0, none⟩) (.inl rfl) _
      have hss : (wo.setCell ⟨w.heap.size, 0, none⟩ (.slice (some ⟨w.heap.size + 1, 0, none⟩) 8 8)).heap.size = wo.heap.size := by simp [World.setCell]
      refine ⟨w.heap.size + 1, T, rfl, hT.out, HC.out.own hcs (Nat.le_refl _), ?_, ?_⟩
      · rw [hTl, hss]
        exact OwnS.of_blk (HB.out.chg hcs (by omega)) (by omega) (by omega) (Nat.le_refl _)
      · rw [hss]
        exact (HRW.out.chg hcs (fun i h1 h2 h3 => by omega)).more (by omega) (Nat.le_refl _)
set_option maxRecDepth 100000 in
set_option maxHeartbeats 4000000 in
theorem cloneTable_any (F : Nat → Prop) (A : Option Addr) (c : Nat) (X : List (List Int)) (w : World) (h : TabR F w A X) (hX : tabOk X) :
    Calls Try.prog 88 #[.agg #[.slice A X.length c]] w fun e w' => ∃ g T, e = .returned (.agg #[.slice (some ⟨g, 0, none⟩) 8 8]) ∧ listsOf T = X ∧ Chg NoB w w' ∧ TabO w.heap.size w'.heap.size w' (some ⟨g, 0, none⟩) 8 T := by
  obtain ⟨i0, hi, hz0, hz1, hz2⟩ := info_parts info_ints'
  obtain ⟨j0, hj, hy0, hy1, hy2⟩ := info_parts info_int
  have hmk : ∀ W, (Instr.makeSlice 29 (.int .i64 8) (.int .i64 8)).run Try.prog W = .ok (.slice (some ⟨W.heap.size, 0, none⟩) 8 8) (W.alloc (.cells (reps 8 [.slice none 0 0]).toArray 24)) :=
    fun W => run_make_reps (P := Try.prog) 29 24 i0 (.slice none 0 0) [.slice none 0 0] Try.underlying29 hi hz0 rfl hz1 8 (by rw [hz2]; omega) (by omega) W
  have hmk6 : ∀ W, (Instr.makeSlice 24 (.int .i64 6) (.int .i64 6)).run Try.prog W = .ok (.slice (some ⟨W.heap.size, 0, none⟩) 6 6) (W.alloc (.cells (reps 6 [.int .i64 0]).toArray 3)) :=
    fun W => run_make_reps (P := Try.prog) 24 3 j0 (.int .i64 0) [.int .i64 0] Try.underlying24 hj hy0 rfl hy1 6 (by rw [hy2]; omega) (by omega) W
  have hsz1 : (Try.prog.info? 3).map (·.size) = some 1 := by rw [hj]; simp [hy1]
  have h8 := hX.1
  obtain ⟨p1, p2, p3⟩ := lit2 w 31 31 #[.slice A X.length c] #[.slice none 0 0]
  obtain ⟨q1, q2, q3⟩ := lit2 ((w.alloc (.cells #[.slice A X.length c] 31)).alloc (.cells #[.slice none 0 0] 31)) 24 31 (reps 8 [.slice none 0 0]).toArray #[.slice (some ⟨w.heap.size + 1 + 1, 0, none⟩) 8 8]
  rw [World.size_alloc, World.size_alloc] at q1 q2
  have Q0 := Lib.hid (p2.chg q3 (fun x => x))
  have QA := Lib.hid (p1.chg q3 (fun x => x))
  have Q1 := Lib.hid q1
  have Q2 := Lib.hid q2
  have Q3 := Lib.hid (p3.trans q3)
  rw [h8] at QA Q0 Q1 Q2 Q3
  clear p1 p2 p3 q1 q2 q3
  have HX := Lib.hid hX
  clear hX
  rw [h8]
  go_enter Try.func88, Try.ntmps88
  go_wp2
  go_loopw [14] (fun i wr => ∃ (f : Nat) (T : List RowO), f ≤ 8 ∧ i = .int .i64 f ∧ Chg NoB w wr ∧ Blk wr (w.heap.size + 1) 31 #[.slice none 0 0] ∧ Blk wr (w.heap.size + 1 + 1 + 1) 31 #[.slice (some ⟨w.heap.size + 1 + 1, 0, none⟩) 8 8] ∧ Hid (listsOf T = X.take f) ∧ RowsO (w.heap.size + 1 + 1 + 1 + 1) wr.heap.size wr T ∧ Blk wr (w.heap.size + 1 + 1) 24 (T.map RowO.cell ++ reps (8 - f) [.slice none 0 0]).toArray) (fun i _ => 8 - (intOf i).toNat)
  case atStart => exact ⟨0, [], Nat.zero_le _, rfl, Q3.out, Q0.out, Q2.out, Lib.hid rfl, RowsO.nil _ _ _, Q1.out⟩
  case round =>
    obtain ⟨wo, rfl⟩ : ∃ wo, wo = wr := ⟨_, rfl⟩
    obtain ⟨f, T, hf8, rfl, hch, hbr, hbv, hT, hrows, hb⟩ := hrel
    have hTl : f ≤ 8 → T.length = f := fun _ => by have := congrArg List.length hT.out; rw [listsOf_length, List.length_take, h8] at this; omega
    have hTl := hTl hf8
    have v0 : wo.cell? ⟨w.heap.size + 1 + 1 + 1, 0, none⟩ = some (.slice (some ⟨w.heap.size + 1 + 1, 0, none⟩) 8 8) := (hbv.cell _).trans rfl
    have HC := Lib.hid hch
    have HBR := Lib.hid hbr
    have HBV := Lib.hid hbv
    have HRW := Lib.hid hrows
    by_cases hlt : f < 8
    · obtain ⟨ad, B, c', rfl, hfF, hcell, hrr, hc1⟩ := (h.lt.new hch) f (by omega)
      have h6 : X[f].length = 6 := (HX.out.2 f (by omega)).1
      have HTF := Lib.hid (show X.take (f + 1) = X.take f ++ [X[f]] from List.take_succ_eq_append_getElem (by omega))
      have hcl := Lib.hid (show (icells X[f]).length = 6 by rw [icells_length, h6])
      have hone := Lib.hid (show ∀ u ∈ icells X[f], u.oneCell' = true from fun u hu => by obtain ⟨x, _, rfl⟩ := List.mem_map.1 hu; rfl)
      have H6 := Lib.hid h6
      have HRR := Lib.hid hrr
      rw [h6] at hcell
      obtain ⟨r, hr⟩ : ∃ r, 8 - f = r + 1 := ⟨8 - f - 1, by omega⟩
      rw [hr, reps_succ] at hb
      have hlenT : (T.map RowO.cell).length = f := by rw [List.length_map, hTl]
      have hroom := hb.room hlenT
      have hfr := hb.frozen f
      have HB := Lib.hid hb
      have HR := Lib.hid hr
      have hi0 : (0 : Int) ≤ (f : Int) := Int.natCast_nonneg _
      have hi1 : (f : Int) < 8 := by omega
      have hGl := hb.lt
      have HGL := Lib.hid hGl
      clear hch hbr hbv hrows hb hr hrr h6
      have hca := (Chg.refl NoB wo).alloc (.cells (reps 6 [.int .i64 0]).toArray 3)
      have v0a := hca.cell v0 (fun x => x)
      have hrooma := hca.cell hroom (fun x => x)
      have hfra := (HB.out.chg hca (fun x => x)).frozen f
      clear hca
      go_wp2
      go_region
      obtain ⟨w5, hw5⟩ : ∃ w5, ((wo.setCell ⟨w.heap.size + 1 + 1, f, none⟩ (.slice (some ⟨wo.heap.size, 0, none⟩) 6 6)).alloc (.cells (reps 6 [.int .i64 0]).toArray 3)).drew = w5 := ⟨_, rfl⟩
      rw [hw5]
      have hss : (wo.setCell ⟨w.heap.size + 1 + 1, f, none⟩ (.slice (some ⟨wo.heap.size, 0, none⟩) 6 6)).heap.size = wo.heap.size := by simp [World.setCell]
      have hc5 : Chg (· = w.heap.size + 1 + 1) wo w5 := by rw [← hw5]; exact (((Chg.refl (· = w.heap.size + 1 + 1) wo).setCell (p := ⟨w.heap.size + 1 + 1, f, none⟩) (.inl rfl) _).alloc _).drew
      have hb5 : Blk w5 (w.heap.size + 1 + 1) 24 (T.map RowO.cell ++ Value.slice (some ⟨wo.heap.size, 0, none⟩) 6 6 :: ([].append (reps r [.slice none 0 0]))).toArray := by
        rw [← hw5]
        exact ((HB.out.fill1 hlenT (.slice (some ⟨wo.heap.size, 0, none⟩) 6 6)).chg ((Chg.refl NoB _).alloc _) (fun x => x)).chg ((Chg.refl NoB _).drew) (fun x => x)
      have hn5 : Blk w5 wo.heap.size 3 (reps 6 [.int .i64 0]).toArray := by
        have h1 := Blk.new (wo.setCell ⟨w.heap.size + 1 + 1, f, none⟩ (.slice (some ⟨wo.heap.size, 0, none⟩) 6 6)) 3 (reps 6 [.int .i64 0]).toArray
        rw [hss] at h1
        rw [← hw5]
        exact h1.chg (F := NoB) ((Chg.refl NoB _).drew) (fun x => x)
      have hsz5 : w5.heap.size = wo.heap.size + 1 := by rw [← hw5]; simp [World.drew, World.setCell]
      clear hw5 hss
      have v5 := hc5.cell v0 (by simp)
      have hhd : w5.cell? ⟨w.heap.size + 1 + 1, f, none⟩ = some (.slice (some ⟨wo.heap.size, 0, none⟩) 6 6) := hb5.room hlenT
      have HC5 := Lib.hid (HC.out.trans' hc5 (fun i hi => .inr (by omega)))
      have HD5 := Lib.hid hc5
      have HB5 := Lib.hid hb5
      have HN5 := Lib.hid hn5
      have HS5 := Lib.hid hsz5
      have HRR5 := Lib.hid (HRR.out.chg hc5 (fun i hi he => by have := hi.2; omega))
      have HBR5 := Lib.hid (HBR.out.chg hc5 (by omega))
      have HBV5 := Lib.hid (HBV.out.chg hc5 (by omega))
      clear hc5 hb5 hn5 hsz5 v0a hrooma hfra v0 hroom hfr
      obtain ⟨w6, hr6, hc6, hb6⟩ := run_copy_blk (P := Try.prog) 24 24 3 3 wo.heap.size 6 6 B 6 c' (reps 6 [.int .i64 0]) 3 (icells X[f]) Try.underlying24 hsz1 HN5.out (by rw [hcl.out]; rfl) (by rw [hcl.out]; decide) HRR5.out (by rw [hcl.out, reps_length]; decide) hone.out
      have HC6 := Lib.hid hc6
      have HB6 := Lib.hid hb6
      clear hc6 hb6
      go_wp2
      go_roundw
      case rel =>
        have hb6 := HB6.out
        rw [List.drop_of_length_le (by rw [hcl.out, reps_length]; decide)] at hb6
        have hok : RowO.ok (w.heap.size + 1 + 1 + 1 + 1) wo.heap.size.succ _ ⟨wo.heap.size, 6, X[f], []⟩ := ⟨by show w.heap.size + 1 + 1 + 1 + 1 ≤ wo.heap.size; have := HBV.out.lt; omega, Nat.lt_succ_self _, hb6, by simp [H6.out]⟩
        have hsz6 := HC6.out.size
        refine ⟨f + 1, T ++ [⟨wo.heap.size, 6, X[f], []⟩], by omega, by go_num, HC5.out.own HC6.out HC.out.size, HBR5.out.chg HC6.out (by have := HBR.out.lt; omega), HBV5.out.chg HC6.out (by have := HBV.out.lt; omega), Lib.hid ?_, ?_, ?_⟩
        · rw [lists_snoc, hT.out, HTF.out]
        · have h1 := (((HRW.out.chg HD5.out (fun i h1 h2 => by omega)).chg HC6.out (fun i h1 h2 => by omega)).snoc hok (Nat.le_refl _))
          exact h1.more (Nat.le_refl _) (by have := HS5.out; omega)
        · rw [cells_snoc', List.append_assoc, show 8 - (f + 1) = r by have := HR.out; omega]
          have e1 : RowO.cell ⟨wo.heap.size, 6, X[f], []⟩ = .slice (some ⟨wo.heap.size, 0, none⟩) 6 6 := by simp [RowO.cell, H6.out]
          rw [e1]
          exact HB5.out.chg HC6.out (by omega)
      case measure => simp [intOf]; omega
    · obtain rfl : f = 8 := by omega
      have hr0 : wo.cell? ⟨w.heap.size + 1, 0, none⟩ = some (.slice none 0 0) := (hbr.cell _).trans rfl
      have hrf := hbr.frozen 0
      rw [Nat.sub_self, reps_zero, List.append_nil] at hb
      have HB := Lib.hid hb
      have hlt1 := hbv.lt
      have hTX : listsOf T = X := by have := hT.out; rwa [List.take_of_length_le (by omega)] at this
      have HTX := Lib.hid hTX
      clear hch hbr hbv hrows hb hTX
      go_wp2_with fail
      (try simp only [Exit.inBlock, Exit.then])
      refine bodyPost_ret (v := .agg #[.slice (some ⟨w.heap.size + 1 + 1, 0, none⟩) 8 8]) (by simp [results, Try.results88, go_sem, *]) rfl ?_
      have hcs : Chg (· = w.heap.size + 1) wo (wo.setCell ⟨w.heap.size + 1, 0, none⟩ (.slice (some ⟨w.heap.size + 1 + 1, 0, none⟩) 8 8)) := (Chg.refl (· = w.heap.size + 1) wo).setCell (p := ⟨w.heap.size + 1, 0, none⟩) (.inl rfl) _
      have hss : (wo.setCell ⟨w.heap.size + 1, 0, none⟩ (.slice (some ⟨w.heap.size + 1 + 1, 0, none⟩) 8 8)).heap.size = wo.heap.size := by simp [World.setCell]
      refine ⟨w.heap.size + 1 + 1, T, rfl, HTX.out, HC.out.own hcs (Nat.le_succ _), ?_, ?_⟩
      · rw [hTl, hss]
        exact OwnS.of_blk (HB.out.chg hcs (by omega)) (by omega) (by omega) (Nat.le_refl _)
      · rw [hss]
        exact (HRW.out.chg hcs (fun i h1 h2 h3 => by omega)).more (by omega) (Nat.le_refl _)
end Go.Proofs.Ytpiojofmflfkkaa
/- LoadTable of the program and of the reference. -/
namespace Go.Proofs.Ytpiojofmflfkkaa
open Go.RowKit
theorem rd_drop {F : Nat → Prop} {w : World} {ad : Addr} {cs : List Value} (h : Rd F w (some ad) cs) (k : Nat) : Rd F w (some (ad.add k)) (cs.drop k) := fun j v hj => by
  rw [List.getElem?_drop] at hj
  obtain ⟨ad', e, hf, hc⟩ := h (k + j) v hj
  cases e
  exact ⟨_, rfl, by rw [block_add]; exact hf, by rw [add_add']; exact hc⟩
end Go.Proofs.Ytpiojofmflfkkaa
/- LoadTable of the reference. -/
namespace Go.Proofs.Ytpiojofmflfkkaa
open Go.RowKit
theorem RowsO.chgT {F : Nat → Prop} {w w' : World} {B E : Nat} {T : List RowO} (h : RowsO B E w T) (hc : Chg F w w') (hF : ∀ k cs, Blk w k 3 cs → ¬ F k) : RowsO B E w' T :=
  ⟨fun r hr => (h.1 r hr).chg hc (hF _ _ (h.1 r hr).2.2.1), h.2⟩
theorem own_row_ok {w : World} {B : Nat} {v : Value} {n : Nat} {xs : List Int} (h : w.ownsRow B 3 1 v n (icells xs)) (hl : xs.length = n) (hn : 0 < n) : ∃ g c rest, v = RowO.cell ⟨g, c, xs, rest⟩ ∧ RowO.ok B w.heap.size w ⟨g, c, xs, rest⟩ := by
  obtain ⟨A, c, rfl, hnc, h0 | ⟨g, rest, rfl, hg, hE, hb⟩⟩ := OwnS.of_row h
  · omega
  · exact ⟨g, c, rest, by simp [RowO.cell, hl], hg, hE, hb, by simp only [hl]; exact hnc⟩
def smPost (V B0 B : Nat) (u : Value) (ad : Addr) (c f p r : Nat) (ch : List Int) (i : Nat) : Value → World → Prop :=
  match i with
  | 0 | 14 => fun v _ => v = .pointer (some ⟨V, 0, none⟩)
  | 1 => fun v _ => v = u
  | 2 => fun v w => ∃ g, v = .slice (some ⟨g, 0, none⟩) 0 0 ∧ B ≤ g ∧ Blk w g 3 #[]
  | 3 => fun v _ => v = .pointer (some ⟨B0, 1, none⟩)
  | 4 => fun v _ => v = .slice (some ad) 48 c
  | 5 | 7 => fun v _ => v = .int .i64 f
  | 6 => fun v _ => v = .int .i64 (p : Int)
  | 8 => fun v _ => v = .int .i64 ((f : Int) + 1)
  | 9 => fun v _ => v = .int .i64 (r : Int)
  | 10 => fun v _ => v = .slice (some (ad.add p)) 6 (c - p)
  | 11 => fun v w => w.ownsRow B 3 1 v 6 (icells ch)
  | _ => fun _ _ => True
theorem smPost_stab {V B0 B : Nat} {u : Value} {ad : Addr} {c f p r : Nat} {ch : List Int} {i : Nat} {v : Value} {w1 w2 : World} (h : smPost V B0 B u ad c f p r ch i v w1) (hc : Chg (fun k => k < B) w1 w2) : smPost V B0 B u ad c f p r ch i v w2 := by
  unfold smPost at *
  split at h
  all_goals first
    | exact h
    | (obtain ⟨g, h1, h2, h3⟩ := h; exact ⟨g, h1, h2, h3.chg hc (by omega)⟩)
    | exact own_chg1 h hc (fun g _ hg _ hk => by omega)
theorem ty_tab : (3 : Nat) ≠ 31 := by decide
theorem lists_ne : (24 : Nat) ≠ 31 := by decide
end Go.Proofs.Ytpiojofmflfkkaa
/- l7Copy of the reference: a table copied row by row. -/
namespace Go.Proofs.Ytpiojofmflfkkaa
open Go.RowKit
def cyPost (V B0 B : Nat) (u : Value) (ad : Addr) (c f : Nat) (Br : Option Addr) (cr : Nat) (ch : List Int) (i : Nat) : Value → World → Prop :=
  match i with
  | 0 | 11 => fun v _ => v = .pointer (some ⟨V, 0, none⟩)
  | 1 => fun v _ => v = u
  | 2 => fun v w => ∃ g, v = .slice (some ⟨g, 0, none⟩) 0 0 ∧ B ≤ g ∧ Blk w g 3 #[]
  | 3 => fun v _ => v = .pointer (some ⟨B0, 0, none⟩)
  | 4 => fun v _ => v = .slice (some ad) 8 c
  | 5 => fun v _ => v = .int .i64 f
  | 6 => fun v _ => v = .pointer (some (ad.add f))
  | 7 => fun v _ => v = .slice Br 6 cr
  | 8 => fun v w => w.ownsRow B 3 1 v 6 (icells ch)
  | _ => fun _ _ => True
theorem cyPost_stab {V B0 B : Nat} {u : Value} {ad : Addr} {c f : Nat} {Br : Option Addr} {cr : Nat} {ch : List Int} {i : Nat} {v : Value} {w1 w2 : World} (h : cyPost V B0 B u ad c f Br cr ch i v w1) (hc : Chg (fun k => k < B) w1 w2) : cyPost V B0 B u ad c f Br cr ch i v w2 := by
  unfold cyPost at *
  split at h
  all_goals first
    | exact h
    | (obtain ⟨g, h1, h2, h3⟩ := h; exact ⟨g, h1, h2, h3.chg hc (by omega)⟩)
    | exact own_chg1 h hc (fun g _ hg _ hk => by omega)
set_option maxRecDepth 100000 in
set_option maxHeartbeats 4000000 in
theorem l7Copy_any (F : Nat → Prop) (A : Option Addr) (c : Nat) (X : List (List Int)) (w : World) (h : TabR F w A X) (hX : tabOk X) :
    Calls Try.prog 80 #[.agg #[.slice A X.length c]] w fun e w' => ∃ A' c' T, e = .returned (.agg #[.slice A' 8 c']) ∧ listsOf T = X ∧ Chg NoB w w' ∧ TabO w.heap.size w'.heap.size w' A' c' T := by
  obtain ⟨i0, hi, hz0, hz1, hz2⟩ := info_parts info_int
  obtain ⟨j0, hj, hy0, hy1, hy2⟩ := info_parts info_ints'
  obtain ⟨hb1, hb2, hcb⟩ := lit2 w 31 31 #[.slice A X.length c] #[.slice none 0 0]
  have h8 := hX.1
  rw [h8] at hb1 hb2 hcb ⊢
  obtain ⟨wb, hwb⟩ : ∃ wb, (w.alloc (.cells #[.slice A 8 c] 31)).alloc (.cells #[.slice none 0 0] 31) = wb := ⟨_, rfl⟩
  rw [hwb] at hb1 hb2 hcb
  have hsz : wb.heap.size = w.heap.size + 1 + 1 := by rw [← hwb]; simp [World.size_alloc]
  have hca := (Chg.refl NoB wb).alloc (.cells #[.slice none 0 0] 31)
  have hbV := Blk.new wb 31 #[.slice none 0 0]
  have HSW := Lib.hid hsz
  have HS5 := Lib.hid (hb1.chg hca (fun x => x))
  have HR5 := Lib.hid (hb2.chg hca (fun x => x))
  have HV0 := Lib.hid hbV
  have HC5 := Lib.hid (hcb.trans hca)
  have HSZ := Lib.hid (show (wb.alloc (.cells #[.slice none 0 0] 31)).heap.size = wb.heap.size + 1 by rw [World.size_alloc])
  have HWB := Lib.hid hwb
  clear hb1 hb2 hcb hca hbV hsz hwb
  have HX := Lib.hid hX
  clear hX
  go_enter Try.func80, Try.ntmps80
  go_wp2
  rw [HWB.out]
  have hV2 := HSW.out
  have hZ := HSZ.out
  obtain ⟨V, hV⟩ : ∃ V, wb.heap.size = V := ⟨_, rfl⟩
  have hV1 : w.heap.size + 1 < V := by omega
  rw [hV] at HV0 hZ
  (try rw [show w.heap.size + 1 + 1 = V by omega])
  (try rw [hV])
  replace HSZ := Lib.hid hZ
  clear hV hV2 hZ HSW HWB
  go_loopw [4] (fun i wr => ∃ (f : Nat) (u : Value) (T : List RowO), f ≤ 8 ∧ i = .int .i64 f ∧ Chg NoB w wr ∧ Blk wr w.heap.size 31 #[.slice A 8 c] ∧ Blk wr (w.heap.size + 1) 31 #[.slice none 0 0] ∧ Blk wr V 31 #[u] ∧ wr.ownsRow (V + 1) 24 1 u f (T.map RowO.cell) ∧ RowsO (V + 1) wr.heap.size wr T ∧ Hid (listsOf T = X.take f) ∧ V < wr.heap.size) (fun i _ => 8 - (intOf i).toNat)
  case atStart => exact ⟨0, .slice none 0 0, [], Nat.zero_le _, rfl, HC5.out, HS5.out, HR5.out, HV0.out, World.ownsRow_nil _ _ _ _, RowsO.nil _ _ _, Lib.hid rfl, by rw [HSZ.out]; omega⟩
  case round =>
    obtain ⟨wo, rfl⟩ : ∃ wo, wo = wr := ⟨_, rfl⟩
    obtain ⟨f, u, T, hf8, rfl, hch, hbs, hbr, hbv, hou, hrows, hT, hVB⟩ := hrel
    have hTl : T.length = f := by have := congrArg List.length hT.out; rw [listsOf_length, List.length_take, h8] at this; omega
    have HC := Lib.hid hch
    have HS := Lib.hid hbs
    have HR := Lib.hid hbr
    have HVV := Lib.hid hbv
    have HOU := Lib.hid hou
    have HRW := Lib.hid hrows
    have s1 : wo.cell? ⟨w.heap.size, 0, none⟩ = some (.slice A 8 c) := (hbs.cell _).trans rfl
    by_cases hlt : f < 8
    · obtain ⟨ad, Br, cr, rfl, hfF, hcell, hrr, hc1⟩ := (h.lt.new hch) f (by omega)
      have h6 : X[f].length = 6 := (HX.out.2 f (by omega)).1
      rw [h6] at hcell hc1
      have HH6 := Lib.hid h6
      have HC1 := Lib.hid hc1
      have HF1 := Lib.hid (show ¬ ((⟨w.heap.size, 0, none⟩ : Addr).block = V ∨ some (⟨w.heap.size, 0, none⟩ : Addr).block = u.ownBlock) from fun hh => by
        rcases hh with h1 | h1
        · simp only at h1; omega
        · have := (hou.lt _ h1.symm).1; simp only at this; omega)
      have HF3 := Lib.hid (show ¬ ((ad.add f).block = V ∨ some (ad.add f).block = u.ownBlock) from fun hh => by
        rcases hh with h1 | h1
        · have := hfF.2; rw [block_add] at h1; omega
        · have h2 := (hou.lt _ h1.symm).1; rw [block_add] at h2; have := hfF.2; omega)
      have HU := Lib.hid (show ∀ k, some k = u.ownBlock → k < wo.heap.size from fun k hk => (hou.lt _ hk.symm).2)
      have HSRC := Lib.hid hrr
      have HCELL := Lib.hid hcell
      have HF2 := Lib.hid (show ∀ k, (F k ∧ k < w.heap.size) → ¬ (k = V ∨ some k = u.ownBlock) from fun k hk hh => by
        rcases hh with h1 | h1
        · omega
        · have := (hou.lt _ h1.symm).1; omega)
      have hchl := Lib.hid (show (icells X[f]).length = 6 * 1 by rw [icells_length, h6])
      have hq0 : (0 : Int) ≤ (f : Int) := Int.natCast_nonneg _
      have hq1 : (f : Int) < 8 := by omega
      obtain ⟨ch, hchE⟩ : ∃ ch, X[f] = ch := ⟨_, rfl⟩
      rw [hchE] at HSRC hchl HH6
      have HCE := Lib.hid hchE
      clear hch hbs hbr hbv hou hrows hrr hfF hc1 hcell h6 hchE
      go_wp2_with fail
      refine wp_region_rg (WInv := fun _ m w5 => NestI w wo 31 24 V (V + 1) wo.heap.size u f (T.map RowO.cell) 1 8 9 10 12 m w5) (R := Chg (fun k => k < wo.heap.size)) (Post := cyPost V w.heap.size wo.heap.size u ad c f Br cr ch) (by kernel_rfl) (by kernel_rfl) (fun _ _ _ _ h _ _ => h) (fun i v w1 w2 h hc => cyPost_stab h hc) (NestI.start (HC.out.drew) ((Chg.refl _ _).drew) (own_chg1 HOU.out ((Chg.refl NoB wo).drew) (fun _ _ _ _ x => x)) (HVV.out.chg ((Chg.refl NoB wo).drew) (fun x => x))) ?_ ?_
      · refine ⟨?_, ?_, ?_, ?_, ?_, ?_, ?_, ?_, ?_, ?_, ?_, ?_, ?_, trivial⟩
        · rintro kc m a w5 hkc hN hm hn
          have e1 : a.tmps[3]?.getD undef = .pointer (some ⟨V, 0, none⟩) := hn.1
          exact rg_val (v := .pointer (some ⟨V, 0, none⟩)) (by simp [execOp, go_sem, e1]) rfl (hN.keep hm (by decide) (by decide) (by decide) (Chg.refl _ _)) (Chg.refl _ _) rfl
        · rintro kc m a w5 hkc hN hm hn
          obtain ⟨⟨_, e1, _, rfl⟩, -⟩ := hn
          have hz : w5.cell? ⟨V, 0, none⟩ = some u := ((hN.load hm).cell _).trans rfl
          exact rg_val (v := u) (by simp [execOp, go_sem, e1, hz]) rfl (hN.keep hm (by decide) (by decide) (by decide) (Chg.refl _ _)) (Chg.refl _ _) rfl
        · rintro kc m a w5 hkc hN hm hn
          have hca : Chg NoB w5 (w5.alloc (.cells #[] 3)) := (Chg.refl _ _).alloc _
          exact rg_val (v := .slice (some ⟨w5.heap.size, 0, none⟩) 0 0) (w' := w5.alloc (.cells #[] 3)) (by simp [execOp, go_sem]) rfl (hN.keep hm (by decide) (by decide) (by decide) hca) (hca.mono (fun _ _ x => x.elim)) ⟨_, rfl, hN.chg.size, Blk.new _ _ _⟩
        · rintro kc m a w5 hkc hN hm hn
          have e1 : a.tmps[1]?.getD undef = .pointer (some ⟨w.heap.size, 0, none⟩) := hn.1
          exact rg_val (v := .pointer (some ⟨w.heap.size, 0, none⟩)) (by simp [execOp, go_sem, e1]) rfl (hN.keep hm (by decide) (by decide) (by decide) (Chg.refl _ _)) (Chg.refl _ _) rfl
        · rintro kc m a w5 hkc hN hm hn
          obtain ⟨⟨_, e1, _, rfl⟩, -⟩ := hn
          have hz := hN.chg.cell s1 HF1.out
          exact rg_val (v := .slice (some ad) 8 c) (by simp [execOp, go_sem, e1, hz]) rfl (hN.keep hm (by decide) (by decide) (by decide) (Chg.refl _ _)) (Chg.refl _ _) rfl
        · rintro kc m a w5 hkc hN hm hn
          have e1 : a.tmps[4]?.getD undef = .int .i64 (f : Int) := hn.1
          exact rg_val (v := .int .i64 (f : Int)) (by simp [execOp, go_sem, e1]) rfl (hN.keep hm (by decide) (by decide) (by decide) (Chg.refl _ _)) (Chg.refl _ _) rfl
        · rintro kc m a w5 hkc hN hm hn
          obtain ⟨⟨_, e1, _, rfl⟩, ⟨_, e2, _, rfl⟩, -⟩ := hn
          exact rg_val (v := .pointer (some (ad.add f))) (by simp [execOp, go_sem, e1, e2]; exact fun hh => absurd hh (by omega)) rfl (hN.keep hm (by decide) (by decide) (by decide) (Chg.refl _ _)) (Chg.refl _ _) rfl
        · rintro kc m a w5 hkc hN hm hn
          obtain ⟨⟨_, e1, _, rfl⟩, -⟩ := hn
          have hz := hN.chg.cell HCELL.out HF3.out
          exact rg_val (v := .slice Br 6 cr) (by simp [execOp, go_sem, e1, hz]) rfl (hN.keep hm (by decide) (by decide) (by decide) (Chg.refl _ _)) (Chg.refl _ _) rfl
        · rintro kc m a w5 hkc hN hm hn
          obtain ⟨⟨_, e1, _, g0, rfl, hg0, hbl⟩, ⟨_, e2, _, rfl⟩, -⟩ := hn
          obtain ⟨v', w6, hr, ho, hc6, hne⟩ := run_append_fresh (P := Try.prog) w5 wo.heap.size 24 24 3 i0 (.int .i64 0) 1 8 Try.underlying24 hi hz0 hz1 hz2 rfl (by decide) g0 hg0 hbl Br 6 cr (icells ch) (by rw [hchl.out]) (HSRC.out.chg hN.chg (fun k hk => HF2.out k hk)) (by simp only [maxLen]; omega) (by omega) hN.chg.size
          exact rg_val (v := v') (w' := w6) (exec_append (.tmp 15) (.tmp 20) 24 rfl (by simpa [Act.eval] using e1) (by simpa [Act.eval] using e2) hr) rfl (hN.keep hm (by decide) (by decide) (by decide) hc6) (hc6.mono (fun _ _ x => x.elim)) ho
        · rintro kc m a w5 hkc hN hm hn
          obtain ⟨⟨rv, e1, hmr, ho⟩, -⟩ := hn
          obtain ⟨Ar, cr', rfl, _⟩ := own_rd ho
          have hca : Chg NoB w5 (w5.alloc (.cells #[.slice Ar 6 cr'] 24)) := (Chg.refl _ _).alloc _
          exact rg_val (v := .slice (some ⟨w5.heap.size, 0, none⟩) 1 1) (w' := w5.alloc (.cells #[.slice Ar 6 cr'] 24)) (by simp [execOp, go_sem, e1]) rfl (hN.lay hmr (by decide) (by decide) (by decide) (by decide) hm hca hN.chg.size (Blk.new _ _ _) rfl) (hca.mono (fun _ _ x => x.elim)) trivial
        · rintro kc m a w5 hkc hN hm hn
          obtain ⟨⟨_, e1, hm1, rfl⟩, ⟨_, e2, hmb, _⟩, -⟩ := hn
          obtain ⟨rv, b, hmr, rfl, hB, hbl, h1c⟩ := hN.elem _ hmb
          have hou := hN.app.1 hm
          obtain ⟨v', w6, hr, ho, hgr, hne⟩ := run_append_rd (P := Try.prog) w5 (V + 1) 29 29 24 j0 (.slice none 0 0) 1 24 Try.underlying29 hj hy0 hy1 hy2 rfl (by decide) _ f (T.map RowO.cell) hou (some ⟨b, 0, none⟩) 1 1 [rv] rfl hbl.rd (fun x hx => by simp at hx; subst hx; exact h1c) (by simp only [maxLen]; omega) (by omega) (by have := hN.chg.size; omega)
          exact rg_val (v := v') (w' := w6) (exec_append (.tmp 14) (.tmp 22) 29 rfl (by simpa [Act.eval] using e1) (by simpa [Act.eval] using e2) hr) rfl (hN.append hm hmr (by rw [hm1]; simp) (by decide) (by decide) (by decide) (by decide) lists_ne (by omega) HU.out hgr ho) ((chg_row hgr).mono fun k _ hk => HU.out k hk) trivial
        · rintro kc m a w5 hkc hN hm hn
          have e1 : a.tmps[3]?.getD undef = .pointer (some ⟨V, 0, none⟩) := hn.1
          exact rg_val (v := .pointer (some ⟨V, 0, none⟩)) (by simp [execOp, go_sem, e1]) rfl (hN.keep hm (by decide) (by decide) (by decide) (Chg.refl _ _)) (Chg.refl _ _) rfl
        · rintro kc m a w5 hkc hN hm hn
          obtain ⟨⟨_, e1, _, rfl⟩, ⟨v', e2, hma, _⟩, -⟩ := hn
          obtain ⟨news, ⟨rv, hmr, rfl⟩, ho⟩ := hN.app.2 _ hma
          obtain ⟨A5, c5, rfl, _⟩ := own_rd ho
          have hb := hN.var.ready hm
          have f0 := hb.frozen 0
          have x0 : w5.cell? ⟨V, 0, none⟩ = some u := (hb.cell _).trans rfl
          obtain ⟨Au, cu, hu5, _⟩ := own_rd HOU.out
          rw [hu5] at x0
          have hcs : Chg (· = V) w5 (w5.setCell ⟨V, 0, none⟩ (.slice A5 (f + 1) c5)) := (Chg.refl (· = V) w5).setCell (p := ⟨V, 0, none⟩) (.inl rfl) _
          exact rg_skip (w' := w5.setCell ⟨V, 0, none⟩ (.slice A5 (f + 1) c5)) (by simp [execOp, go_sem, e1, e2, x0, f0]) rfl (hN.store hma (by decide) (by decide) (by decide) (by decide) lists_ne (by omega) hVB hcs hb (hb.set_ 0 _)) (hcs.mono fun k _ hk => by rw [hk]; exact hVB) trivial
      · skip
        rintro m w5 hN
        simp only [AllVals]
        rintro rv0 m0 p0 rv1 m1 p1 rv2 m2 p2 rv3 m3 p3 rv4 m4 p4 rv5 m5 p5 rv6 m6 p6 rv7 m7 p7 rv8 m8 p8 rv9 m9 p9 rv10 m10 p10 rv11 m11 p11 rv12 m12 p12
        obtain ⟨hb5, ho5⟩ := hN.done m10 m12 m8
        have hrow := own_row_ok (p8 : w5.ownsRow wo.heap.size 3 1 rv8 6 (icells ch)) HH6.out (by omega)
        obtain ⟨g6, c6, rest6, hrv, hok6⟩ := hrow
        have HN := Lib.hid hN
        have HB5 := Lib.hid hb5
        have HO5 := Lib.hid ho5
        have HOK6 := Lib.hid hok6
        have HRV := Lib.hid hrv
        clear p0 p1 p2 p3 p4 p5 p6 p7 p8 p9 p10 p11 p12 hN hb5 ho5 hok6 hrv
        simp only [Act.put, List.setIfInBounds_toArray, List.set_cons_succ, List.set_cons_zero]
        go_wp2_with fail
        go_roundw
        case rel =>
          have hc5 := HN.out.chg
          obtain ⟨A5, c5, hv5, _⟩ := own_rd HO5.out
          have hb5 := HB5.out
          rw [hv5] at hb5
          refine ⟨f + 1, rv10, T ++ [⟨g6, c6, ch, rest6⟩], by omega, by go_num, HN.out.chg0, HS.out.chg hc5 HF1.out, HR.out.chg hc5 ?_, by rw [hv5]; exact hb5, ?_, ?_, Lib.hid ?_, by have := hc5.size; omega⟩
          · rintro (h1 | h1)
            · omega
            · have := (HOU.out.lt _ h1.symm).1; omega
          · rw [cells_snoc', ← HRV.out]; exact HO5.out
          · have h1 := (HRW.out.chgT hc5 (fun k cs hk hh => by
              rcases hh with h2 | h2
              · subst h2; exact ty_tab (hk.sameTy HVV.out)
              · exact own_ne_box HOU.out hk (Ne.symm ty_ne) h2))
            exact (h1.snoc ⟨by have h6 : wo.heap.size ≤ g6 := HOK6.out.1; show V + 1 ≤ g6; omega, HOK6.out.2⟩ HOK6.out.1)
          · rw [lists_snoc, hT.out, List.take_succ_eq_append_getElem (by rw [h8]; exact hlt), HCE.out]
        case measure => simp [intOf]; omega
    · obtain rfl : f = 8 := by omega
      obtain ⟨A8, c8, rfl, ho8⟩ := OwnS.of_row hou
      have hXX : listsOf T = X := by rw [hT.out]; exact List.take_of_length_le (by omega)
      have hTO : TabO (V + 1) wo.heap.size wo A8 c8 T := ⟨by rw [hTl]; exact ho8, hrows⟩
      have HXX := Lib.hid hXX
      have HTO := Lib.hid hTO
      clear hXX hTl hTO ho8 hrows hou hT HOU HRW
      have v0 : wo.cell? ⟨V, 0, none⟩ = some (.slice A8 8 c8) := (hbv.cell _).trans rfl
      have r0 : wo.cell? ⟨w.heap.size + 1, 0, none⟩ = some (.slice none 0 0) := (hbr.cell _).trans rfl
      have rf := hbr.frozen 0
      have HCV := Lib.hid hch
      clear hch hbs hbr hbv
      go_wp2_with fail
      (try simp only [Exit.inBlock, Exit.then])
      refine bodyPost_ret (v := .agg #[.slice A8 8 c8]) (by simp [results, Try.results80, go_sem, *]) rfl ?_
      have hcs : Chg (· = w.heap.size + 1) wo (wo.setCell ⟨w.heap.size + 1, 0, none⟩ (.slice A8 8 c8)) := (Chg.refl (· = w.heap.size + 1) wo).setCell (p := ⟨w.heap.size + 1, 0, none⟩) (.inl rfl) _
      have hss : (wo.setCell ⟨w.heap.size + 1, 0, none⟩ (.slice A8 8 c8)).heap.size = wo.heap.size := World.size_setCell _ _ _
      refine ⟨A8, c8, T, rfl, HXX.out, HCV.out.own hcs (Nat.le_succ _), ?_⟩
      exact (HTO.out.chg hcs (fun i h1 h2 h3 => by omega)).more (by omega) (by rw [hss]; omega)
end Go.Proofs.Ytpiojofmflfkkaa
/- CutFile of the program and of the reference, from place 0 on, on a table that is valid. -/
namespace Go.Proofs.Ytpiojofmflfkkaa
open Go.RowKit
theorem tabOk_small {X : List (List Int)} (h : tabOk X) : total X ≤ 1048576 ∧ X.length ≤ 9223372036854775807 ∧ ∀ r ∈ X, r.length ≤ 9223372036854775807 := by
  have h8 := h.1
  have hr : ∀ r ∈ X, r.length = 6 := fun r hr => by
    obtain ⟨k, hk, rfl⟩ := List.getElem_of_mem hr
    exact (h.2 k hk).1
  have : ∀ (l : List (List Int)), (∀ r ∈ l, r.length = 6) → (l.map List.length).sum = 6 * l.length := by
    intro l
    induction l with
    | nil => intro _; rfl
    | cons x l ih => intro h; rw [List.map_cons, List.sum_cons, ih (fun r hr => h r (List.mem_cons_of_mem _ hr)), h x (List.mem_cons_self), List.length_cons]; omega
  refine ⟨?_, by omega, fun r h => by rw [hr r h]; omega⟩
  unfold total
  have h3 := this _ hr
  omega
theorem TabO.at_ {B E : Nat} {w : World} {A : Option Addr} {c : Nat} {T : List RowO} (h : TabO B E w A c T) {f : Nat} (hf : f < T.length) :
    ∃ ad, A = some ad ∧ B ≤ (ad.add f).block ∧ (ad.add f).block < E ∧ w.cell? (ad.add f) = some (.slice (some ⟨T[f].g, 0, none⟩) T[f].xs.length T[f].c) := by
  obtain ⟨ad, e, hf', hb, hc⟩ := h.1.rd.at_ (k := f) (by simpa using hf)
  rw [List.getElem_map] at hc
  have hb' : (ad.add f).block = ad.block := block_add _ _
  exact ⟨ad, e, by rw [hb']; exact hf'.1, by rw [hb']; exact hf'.2, hc⟩
/-- One list of the table is turned. -/
theorem TabO.setRow {B E : Nat} {w w' : World} {A : Option Addr} {c : Nat} {T : List RowO} (h : TabO B E w A c T) {f : Nat} (hf : f < T.length) {ys : List Int} (hc : Chg (· = T[f].g) w w') (hl : ys.length = T[f].xs.length) (hb : Blk w' T[f].g 3 (icells ys ++ T[f].rest).toArray) :
    TabO B E w' A c (T.set f ⟨T[f].g, T[f].c, ys, T[f].rest⟩) := by
  have hrows := rows_mark (ys := ys) h.2 hf (hc.mono (G := fun i => T[f].g ≤ i ∧ i < T[f].g + 1) (fun i _ hi => by omega)) hl hb
  refine ⟨?_, hrows⟩
  rw [List.length_set, rows_cell (rest' := T[f].rest) hf hl]
  have h0 := h.1
  refine ⟨h0.1, ?_⟩
  rcases h0.2 with h0 | ⟨g', rest, hA, hg, hE, hbb⟩
  · exact .inl h0
  · exact .inr ⟨g', rest, hA, hg, hE, hbb.chg hc (fun he => ty_ne (Blk.ty (h.2.1 _ (List.getElem_mem hf)).2.2.1 (by rw [← he]; exact hbb)))⟩
theorem icells_set (xs : List Int) (k : Nat) (v : Int) : icells (xs.set k v) = (icells xs).set k (.int .i64 v) := by unfold icells; rw [List.map_set]
/-- A number is stored into a list. -/
theorem row_store {w : World} {g : Nat} {xs : List Int} {rest : List Value} (h : Blk w g 3 (icells xs ++ rest).toArray) {k : Nat} (hk : k < xs.length) (v : Int) :
    Blk (w.setCell ⟨g, k, none⟩ (.int .i64 v)) g 3 (icells (xs.set k v) ++ rest).toArray := by
  have h1 := h.set_ k (.int .i64 v)
  have e : ((icells xs ++ rest).toArray).setIfInBounds k (.int .i64 v) = (icells (xs.set k v) ++ rest).toArray := by
    rw [List.setIfInBounds_toArray, icells_set, List.set_append_left _ _ (by rw [icells_length]; exact hk)]
  rw [← e]
  exact h1
theorem row_cell {w : World} {g : Nat} {xs : List Int} {rest : List Value} (h : Blk w g 3 (icells xs ++ rest).toArray) {k : Nat} (hk : k < xs.length) : w.cell? ⟨g, k, none⟩ = some (.int .i64 xs[k]) := by
  rw [h.cell]
  have hl : k < (icells xs).length := by rw [icells_length]; exact hk
  rw [List.getElem?_toArray, List.getElem?_append_left hl]
  simp [icells, hk]
theorem rowOk_blank (pre : List Int) : rowOk pre (List.replicate 6 (-1)) := ⟨by simp, fun k hk => by rw [List.getElem_replicate]; exact ⟨by omega, by omega, fun h => absurd h (by omega)⟩⟩
end Go.Proofs.Ytpiojofmflfkkaa
/- Tables by places; where one place of a table lies. -/
namespace Go.Proofs.Ytpiojofmflfkkaa
open Go.RowKit
/-- The table with these pages. -/
def tabF (φ : Nat → Nat → Int) : List (List Int) := (List.range 8).map fun f => (List.range 6).map fun p => φ f p
def tget (X : List (List Int)) (f p : Nat) : Int := (X.getD f []).getD p 0
def upd2 (φ : Nat → Nat → Int) (f p : Nat) (v : Int) : Nat → Nat → Int := fun f' p' => if f' = f ∧ p' = p then v else φ f' p'
theorem tabF_len (φ : Nat → Nat → Int) : (tabF φ).length = 8 := by simp [tabF]
theorem tabF_get (φ : Nat → Nat → Int) {f : Nat} (h : f < (tabF φ).length) : (tabF φ)[f] = (List.range 6).map fun p => φ f p := by simp [tabF]
theorem tabF_row (φ : Nat → Nat → Int) {f : Nat} (h : f < 8) : (tabF φ)[f]? = some ((List.range 6).map fun p => φ f p) := by
  rw [List.getElem?_eq_getElem (by rw [tabF_len]; exact h), tabF_get]
theorem tabF_tget {X : List (List Int)} (h : tabOk X) : tabF (tget X) = X := by
  apply List.ext_getElem
  · rw [tabF_len, h.1]
  · intro f h1 h2
    rw [tabF_get]
    have h6 := (h.2 f h2).1
    apply List.ext_getElem
    · simp [h6]
    · intro p h3 h4
      simp only [List.getElem_map, List.getElem_range]
      have e : X.getD f [] = X[f] := by rw [List.getD_eq_getElem?_getD, List.getElem?_eq_getElem h2]; rfl
      unfold tget
      rw [e, List.getD_eq_getElem?_getD, List.getElem?_eq_getElem h4, Option.getD_some]
theorem tget_tabF (φ : Nat → Nat → Int) {f p : Nat} (hf : f < 8) (hp : p < 6) : tget (tabF φ) f p = φ f p := by
  have e : (tabF φ).getD f [] = (List.range 6).map fun p => φ f p := by rw [List.getD_eq_getElem?_getD, tabF_row φ hf]; rfl
  unfold tget
  rw [e, List.getD_eq_getElem?_getD, List.getElem?_map, List.getElem?_range hp]
  rfl
theorem tabF_set (φ : Nat → Nat → Int) {f p : Nat} (v : Int) : (tabF φ).set f (((List.range 6).map fun p => φ f p).set p v) = tabF (upd2 φ f p v) := by
  apply List.ext_getElem
  · rw [List.length_set, tabF_len, tabF_len]
  · intro i h1 h2
    rw [List.getElem_set, tabF_get, tabF_get]
    split
    · rename_i he
      subst he
      apply List.ext_getElem
      · simp
      · intro j h3 h4
        rw [List.getElem_set]
        simp only [List.getElem_map, List.getElem_range]
        unfold upd2
        split
        · rename_i hj; rw [if_pos ⟨rfl, hj.symm⟩]
        · rename_i hj; rw [if_neg (fun hh => hj hh.2.symm)]
    · rename_i he
      apply List.map_congr_left
      intro j _
      unfold upd2
      rw [if_neg (fun hh => he hh.1.symm)]
/-- Where one place of a table lies, and what a store there leaves. -/
theorem TabO.spot {B E : Nat} {w : World} {g c : Nat} {T : List RowO} {φ : Nat → Nat → Int} (h : TabO B E w (some ⟨g, 0, none⟩) c T) (hT : listsOf T = tabF φ) {f p : Nat} (hf : f < 8) (hp : p < 6) :
    ∃ gf cf, w.cell? ⟨g, f, none⟩ = some (.slice (some ⟨gf, 0, none⟩) 6 cf) ∧ B ≤ gf ∧ gf < E ∧ w.cell? ⟨gf, p, none⟩ = some (.int .i64 (φ f p)) ∧ w.frozen? ⟨gf, p, none⟩ = false ∧ 6 ≤ cf ∧ gf ≠ g ∧
      ∀ v : Int, ∃ T', TabO B E (w.setCell ⟨gf, p, none⟩ (.int .i64 v)) (some ⟨g, 0, none⟩) c T' ∧ listsOf T' = tabF (upd2 φ f p v) := by
  have hTl : T.length = 8 := by rw [← listsOf_length, hT, tabF_len]
  have hfT : f < T.length := by omega
  have hxs : T[f].xs = (List.range 6).map fun p => φ f p := by
    have h1 : (listsOf T)[f]? = some T[f].xs := by simp [listsOf, List.getElem?_eq_getElem hfT]
    rw [hT, tabF_row φ hf] at h1
    exact (Option.some.inj h1).symm
  have h6 : T[f].xs.length = 6 := by rw [hxs]; simp
  obtain ⟨ad, he, _, _, hcell⟩ := h.at_ hfT
  injection he with he
  subst he
  rw [show (⟨g, 0, none⟩ : Addr).add f = ⟨g, f, none⟩ by unfold Addr.add; split <;> simp_all, h6] at hcell
  have hok := h.2.1 T[f] (List.getElem_mem hfT)
  have hrc := row_cell hok.2.2.1 (k := p) (by omega)
  have hval : T[f].xs[p]'(by omega) = φ f p := by simp [hxs]
  rw [hval] at hrc
  refine ⟨T[f].g, T[f].c, hcell, hok.1, hok.2.1, hrc, hok.2.2.1.frozen p, by have := hok.2.2.2; omega, fun he => ?_, fun v => ?_⟩
  · rcases h.1.2 with ⟨h0, _⟩ | ⟨g', rest, he', _, _, hb⟩
    · omega
    · injection he' with he'
      injection he' with he'
      subst he'
      rw [← he] at hb
      exact ty_ne (Blk.ty hok.2.2.1 hb)
  have hcs : Chg (· = T[f].g) w (w.setCell ⟨T[f].g, p, none⟩ (.int .i64 v)) := (Chg.refl (· = T[f].g) w).setCell (p := ⟨T[f].g, p, none⟩) (.inl rfl) _
  refine ⟨T.set f ⟨T[f].g, T[f].c, T[f].xs.set p v, T[f].rest⟩, h.setRow hfT hcs (by rw [List.length_set]) (row_store hok.2.2.1 (k := p) (by omega) v), ?_⟩
  rw [rows_lists, hT]
  simp only
  rw [hxs]
  exact tabF_set φ v
instance (pre r : List Int) : Decidable (rowOk pre r) := by unfold rowOk; infer_instance
instance (X : List (List Int)) : Decidable (tabOk X) := by unfold tabOk; infer_instance
end Go.Proofs.Ytpiojofmflfkkaa
/- Tables whose places hold different pages are valid. -/
namespace Go.Proofs.Ytpiojofmflfkkaa
open Go.RowKit
def GoodF (φ : Nat → Nat → Int) : Prop := (∀ f p, f < 8 → p < 6 → -1 ≤ φ f p ∧ φ f p ≤ 47) ∧ ∀ f p f' p', f < 8 → p < 6 → f' < 8 → p' < 6 → 0 ≤ φ f p → φ f p = φ f' p' → f = f' ∧ p = p'
theorem tabOk_of {φ : Nat → Nat → Int} (h : GoodF φ) : tabOk (tabF φ) := by
  refine ⟨tabF_len φ, fun f hf => ?_⟩
  have hf8 : f < 8 := by rw [tabF_len] at hf; exact hf
  rw [tabF_get]
  refine ⟨by simp, fun k hk => ?_⟩
  have hk6 : k < 6 := by simpa using hk
  simp only [List.getElem_map, List.getElem_range]
  refine ⟨(h.1 f k hf8 hk6).1, (h.1 f k hf8 hk6).2, fun h0 hm => ?_⟩
  rw [List.mem_append] at hm
  rcases hm with hm | hm
  · rw [List.mem_flatten] at hm
    obtain ⟨l, hl, hx⟩ := hm
    obtain ⟨i, hi, rfl⟩ := List.getElem_of_mem hl
    have hi2 : i < f := by rw [List.length_take] at hi; omega
    rw [List.getElem_take, tabF_get, List.mem_map] at hx
    obtain ⟨j, hj, he⟩ := hx
    have := h.2 f k i j hf8 hk6 (by omega) (List.mem_range.1 hj) h0 he.symm
    omega
  · obtain ⟨j, hj, he⟩ := List.getElem_of_mem hm
    have hj2 : j < k := by rw [List.length_take] at hj; omega
    rw [List.getElem_take] at he
    simp only [List.getElem_map, List.getElem_range] at he
    have := h.2 f k f j hf8 hk6 hf8 (by omega) h0 he.symm
    omega
theorem tget_get {X : List (List Int)} (h : tabOk X) {f p : Nat} (hf : f < 8) (hp : p < 6) : ∃ (h1 : f < X.length) (h2 : p < X[f].length), X[f][p] = tget X f p := by
  have h1 : f < X.length := by rw [h.1]; exact hf
  have h2 : p < X[f].length := by rw [(h.2 f h1).1]; exact hp
  refine ⟨h1, h2, ?_⟩
  have e : X.getD f [] = X[f] := by rw [List.getD_eq_getElem?_getD, List.getElem?_eq_getElem h1]; rfl
  unfold tget
  rw [e, List.getD_eq_getElem?_getD, List.getElem?_eq_getElem h2, Option.getD_some]
theorem good_of {X : List (List Int)} (h : tabOk X) : GoodF (tget X) := by
  have key : ∀ f p f' p', f < 8 → p < 6 → f' < 8 → p' < 6 → 0 ≤ tget X f p → tget X f p = tget X f' p' → (f' < f ∨ (f' = f ∧ p' < p)) → False := by
    intro f p f' p' hf hp hf' hp' h0 he hlt
    obtain ⟨h1, h2, e1⟩ := tget_get h hf hp
    obtain ⟨h3, h4, e2⟩ := tget_get h hf' hp'
    have hn := ((h.2 f h1).2 p h2).2.2 (by rw [e1]; exact h0)
    apply hn
    rw [List.mem_append, e1, he, ← e2]
    rcases hlt with hl | ⟨rfl, hl⟩
    · refine .inl (List.mem_flatten.2 ⟨X[f'], ?_, List.getElem_mem h4⟩)
      have : f' < (X.take f).length := by rw [List.length_take]; omega
      rw [← List.getElem_take (i := f') (h := this)]
      exact List.getElem_mem this
    · refine .inr ?_
      have : p' < (X[f'].take p).length := by rw [List.length_take]; omega
      rw [← List.getElem_take (i := p') (h := this)]
      exact List.getElem_mem this
  refine ⟨fun f p hf hp => ?_, fun f p f' p' hf hp hf' hp' h0 he => ?_⟩
  · obtain ⟨h1, h2, e1⟩ := tget_get h hf hp
    rw [← e1]
    have := (h.2 f h1).2 p h2
    exact ⟨this.1, this.2.1⟩
  · by_cases h1 : f' < f ∨ (f' = f ∧ p' < p)
    · exact (key f p f' p' hf hp hf' hp' h0 he h1).elim
    · by_cases h2 : f < f' ∨ (f = f' ∧ p < p')
      · exact (key f' p' f p hf' hp' hf hp (by omega) he.symm h2).elim
      · omega
end Go.Proofs.Ytpiojofmflfkkaa
/- TableGet of the program, on a table that is valid. -/
namespace Go.Proofs.Ytpiojofmflfkkaa
open Go.RowKit
set_option maxRecDepth 100000 in
set_option maxHeartbeats 1000000 in
theorem iTableGetT_any (F : Nat → Prop) (A : Option Addr) (c : Nat) (X : List (List Int)) (w : World) (h : TabR F w A X) (hX : tabOk X) (f p : Nat) (hf : f < 8) (hp : p < 6) :
    Calls Try.prog 48 #[.agg #[.slice A X.length c], .int .i64 f, .int .i64 p] w fun e w' => e = .returned (.int .i64 (tget X f p)) ∧ Chg NoB w w' := by
  have hca := (Chg.refl NoB w).alloc (.cells #[.slice A X.length c] 31)
  have HB := Lib.hid (Blk.new w 31 #[.slice A X.length c])
  have HT := Lib.hid (h.lt.new hca)
  have HC := Lib.hid hca
  have HX := Lib.hid hX
  have HL8 := Lib.hid hX.1
  have i0 : (0 : Int) ≤ (f : Int) := Int.natCast_nonneg _
  have i1 : (f : Int) < 8 := by omega
  have i2 : ¬ ((f : Int) < 0) := by omega
  have i3 : ¬ ((8 : Int) ≤ (f : Int)) := by omega
  have j0 : (0 : Int) ≤ (p : Int) := Int.natCast_nonneg _
  have j1 : (p : Int) < 6 := by omega
  have j2 : ¬ ((p : Int) < 0) := by omega
  have j3 : ¬ ((5 : Int) < (p : Int)) := by omega
  have HG := Lib.hid (tget_get hX hf hp)
  clear h hca hX
  go_enter Try.func48, Try.ntmps48
  go_wp2_with fail
  refine (iTableValid_any _ A c X _ HT.out).mono ?_
  rintro e w1 ⟨r, rfl, hr, hc1⟩
  obtain rfl : r = true := hr.2 HX.out
  have hb1 := HB.out.chg hc1 (fun x => x)
  have x0 : w1.cell? ⟨w.heap.size, 0, none⟩ = some (.slice A X.length c) := (hb1.cell _).trans rfl
  have hfl : f < X.length := by rw [HL8.out]; exact hf
  have h6 : X[f].length = 6 := (HX.out.2 f hfl).1
  obtain ⟨ad, B, c', rfl, hF, hcell, hrd, -⟩ := (HT.out.new hc1) f hfl
  obtain ⟨ad2, rfl, -, hb2, hck⟩ := ints_at hrd (k := p) (by omega)
  have HC1 := Lib.hid (HC.out.trans hc1)
  have HEQ := Lib.hid (show tget X f p = X[f][p]'(by omega) by obtain ⟨h1, h2, h3⟩ := HG.out; exact h3.symm)
  rw [h6] at hcell
  rw [HL8.out] at x0 ⊢
  generalize X[f][p]'(by omega) = x at hck HEQ
  clear hr hb1 hc1 hrd h6
  go_wp2
  go_ret
  exact ⟨by rw [HEQ.out]; rfl, HC1.out⟩
end Go.Proofs.Ytpiojofmflfkkaa
/- PagesSince of the program. -/
namespace Go.Proofs.Ytpiojofmflfkkaa
open Go.RowKit
def stampOf (D : List Bk) (k : Nat) : Int := (pgAt D k).stamp
theorem run_stamp (p : Pg) (w : World) : Sem.run Try.prog (Instr.field 80 (pval p) 4) w = .ok (.int .i64 p.stamp) w := by kernel_rfl
end Go.Proofs.Ytpiojofmflfkkaa
/- Tables by places; where one place of a table lies. RollForward of the program. -/
namespace Go.Proofs.Ytpiojofmflfkkaa
open Go.RowKit
def RollP (w : World) (Y : List (List Int)) (e : Ending) (w' : World) : Prop := ∃ A c T, e = .returned (.agg #[.slice A Y.length c]) ∧ listsOf T = Y ∧ Chg NoB w w' ∧ TabO w.heap.size w'.heap.size w' A c T
theorem page_places {D : List Bk} (hd : DvOk D) {x : Nat} (hx : x < 4 * D.length) (hf : (pgAt D x).full = true) : ∃ fi pl : Nat, (pgAt D x).file = (fi : Int) ∧ (pgAt D x).place = (pl : Int) ∧ fi < 8 ∧ pl < 6 := by
  have hok := (pgOk_yes hf).1 (pgAt_ok hd hx)
  obtain ⟨⟨a1, a2⟩, ⟨b1, b2⟩, _⟩ := hok
  exact ⟨(pgAt D x).file.toNat, (pgAt D x).place.toNat, by omega, by omega, by omega, by omega⟩
end Go.Proofs.Ytpiojofmflfkkaa
/- l7New of the reference: the empty table. -/
namespace Go.Proofs.Ytpiojofmflfkkaa
open Go.RowKit
def NewTabP (w : World) (X : List (List Int)) (e : Ending) (w' : World) : Prop := ∃ A c T, e = .returned (.agg #[.slice A 8 c]) ∧ listsOf T = X ∧ Chg NoB w w' ∧ TabO w.heap.size w'.heap.size w' A c T
set_option maxRecDepth 100000 in
set_option maxHeartbeats 1000000 in
theorem l7New_any (w : World) :
    Calls Try.prog 128 #[] w (NewTabP w (emptyRows 8)) := by
  obtain ⟨i0, hi, hz0, hz1, hz2⟩ := info_parts info_int
  obtain ⟨j0, hj, hy0, hy1, hy2⟩ := info_parts info_ints'
  obtain ⟨q1, q2, q3⟩ := lit2 w 31 31 #[.slice none 0 0] #[.slice none 0 0]
  have HR0 := Lib.hid q1
  have HV0 := Lib.hid q2
  have HC0 := Lib.hid q3
  clear q1 q2 q3
  go_enter Try.func128, Try.ntmps128
  go_wp2
  go_loopw [2] (fun i wr => ∃ (f : Nat) (u : Value) (T : List RowO), f ≤ 8 ∧ i = .int .i64 f ∧ Chg NoB w wr ∧ Blk wr w.heap.size 31 #[.slice none 0 0] ∧ Blk wr (w.heap.size + 1) 31 #[u] ∧ wr.ownsRow (w.heap.size + 1 + 1) 24 1 u f (T.map RowO.cell) ∧ RowsO (w.heap.size + 1 + 1) wr.heap.size wr T ∧ Hid (listsOf T = emptyRows f)) (fun i _ => 8 - (intOf i).toNat)
  case atStart => exact ⟨0, .slice none 0 0, [], Nat.zero_le _, rfl, HC0.out, HR0.out, HV0.out, World.ownsRow_nil _ _ _ _, RowsO.nil _ _ _, Lib.hid rfl⟩
  case round =>
    obtain ⟨wo, rfl⟩ : ∃ wo, wo = wr := ⟨_, rfl⟩
    obtain ⟨f, u, T, hf8, rfl, hch, hbr, hbv, hou, hrows, hT⟩ := hrel
    obtain ⟨Au, cu, rfl, _⟩ := own_rd hou
    have hTl : T.length = f := by have := congrArg List.length hT.out; rw [listsOf_length, emptyRows, List.length_replicate] at this; exact this
    have HTL := Lib.hid hTl
    have HC := Lib.hid hch
    have HR := Lib.hid hbr
    have HV := Lib.hid hbv
    have HOU := Lib.hid hou
    have HRW := Lib.hid hrows
    have HVL := Lib.hid hbv.lt
    clear hTl
    by_cases hlt : f < 8
    · have HE := Lib.hid (own_empty wo 3 1 wo.heap.size (Nat.le_refl _))
      have HCE := Lib.hid ((Chg.refl NoB wo).alloc (.cells #[] 3))
      have HLT := Lib.hid hlt
      have hi1 : (f : Int) < 8 := by omega
      clear hch hbr hbv hou hrows
      go_wp2
      go_loopw [3, 4] (fun v i wr => ∃ k : Nat, k ≤ 6 ∧ i = .int .i64 k ∧ Chg NoB wo wr ∧ wr.ownsRow wo.heap.size 3 1 v k (icells (List.replicate k (-1)))) (fun _ i _ => 6 - (intOf i).toNat)
      case atStart => exact ⟨0, Nat.zero_le _, rfl, HCE.out, HE.out⟩
      case round =>
        obtain ⟨wi, rfl⟩ : ∃ wi, wi = wr := ⟨_, rfl⟩
        obtain ⟨k, hk6, rfl, hch, how⟩ := hrel
        have HCI := Lib.hid hch
        have HOI := Lib.hid how
        have hsz := hch.size
        by_cases hk : k < 6
        · have hcx : Chg NoB wi (wi.alloc (.cells #[.int .i64 (-1)] 3)) := (Chg.refl _ _).alloc _
          have HCX := Lib.hid hcx
          have HSX := Lib.hid (Nat.le_trans hsz hcx.size)
          have hk5 : (k : Int) ≤ 5 := by omega
          clear hch how hsz hcx
          go_wp2_with (at_builtin; refine wpList_append_rd rfl (.tmp 15) (.tmp 16) _ rfl wo.heap.size 3 i0 (.int .i64 0) 1 8 Try.underlying24 hi hz0 hz1 hz2 rfl (by decide) _ _ _ rfl (HOI.out.alloc _) (some ⟨wi.heap.size, 0, none⟩) 1 1 [.int .i64 (-1)] rfl rfl (Blk.new _ _ _).rd (by simp [Value.oneCell']) (by simp only [maxLen]; omega) (by omega) HSX.out ?_; intro v' w5 hown' hgrow _)
          go_roundw
          case rel =>
            refine ⟨k + 1, by omega, by go_num, chg_grown (HOI.out.alloc _) hgrow (HCI.out.alloc _) (Nat.le_refl _), ?_⟩
            have e1 : icells (List.replicate (k + 1) (-1)) = icells (List.replicate k (-1)) ++ [.int .i64 (-1)] := by rw [List.replicate_succ', ← icells_snoc']
            rw [e1]
            exact hown'
          case measure => simp [intOf]; omega
        · obtain rfl : k = 6 := by omega
          obtain ⟨g6, c6, rest6, rfl, hok6⟩ := own_row_ok how (by simp) (by omega)
          have hcx : Chg NoB wi (wi.alloc (.cells #[RowO.cell ⟨g6, c6, List.replicate 6 (-1), rest6⟩] 24)) := (Chg.refl _ _).alloc _
          have hou := own_chg1 HOU.out (HCI.out.trans hcx) (fun _ _ _ _ x => x)
          have hbv := HV.out.chg (HCI.out.trans hcx) (fun x => x)
          have v0 : wi.cell? ⟨w.heap.size + 1, 0, none⟩ = some (.slice Au f cu) := ((HV.out.chg HCI.out (fun x => x)).cell _).trans rfl
          have v0x : (wi.alloc (.cells #[RowO.cell ⟨g6, c6, List.replicate 6 (-1), rest6⟩] 24)).cell? ⟨w.heap.size + 1, 0, none⟩ = some (.slice Au f cu) := (hbv.cell _).trans rfl
          have hne : ¬ (some (w.heap.size + 1) = (Value.slice Au f cu).ownBlock) := fun hh => by
            have := (hou.lt _ hh.symm).1; omega
          have HNE := Lib.hid hne
          have HOX := Lib.hid hou
          have HBX := Lib.hid hbv
          have HOK := Lib.hid hok6
          have HSW := Lib.hid (show w.heap.size + 1 + 1 ≤ (wi.alloc (.cells #[RowO.cell ⟨g6, c6, List.replicate 6 (-1), rest6⟩] 24)).heap.size by have := HVL.out; have := hcx.size; omega)
          have HSZ := Lib.hid hsz
          have HCX := Lib.hid (HCI.out.trans hcx)
          have HCC := Lib.hid hcx
          clear hch how hok6 hcx hou hbv hne hsz
          obtain ⟨rc, hrc⟩ : ∃ rc, RowO.cell ⟨g6, c6, List.replicate 6 (-1), rest6⟩ = rc := ⟨_, rfl⟩
          have hrc1 : rc = .slice (some ⟨g6, 0, none⟩) 6 c6 := by rw [← hrc]; simp [RowO.cell]
          subst hrc1
          rw [hrc] at HOX HBX HSW HCX HCC v0x ⊢
          have HRC := Lib.hid hrc
          clear hrc
          go_wp2_with (at_builtin; refine wpList_append_rd rfl (.tmp 19) (.tmp 21) _ rfl (w.heap.size + 1 + 1) 24 j0 (.slice none 0 0) 1 24 Try.underlying29 hj hy0 hy1 hy2 rfl (by decide) _ _ _ rfl HOX.out (some ⟨wi.heap.size, 0, none⟩) 1 1 [.slice (some ⟨g6, 0, none⟩) 6 c6] rfl rfl (Blk.new _ _ _).rd (by simp [Value.oneCell']) (by simp only [maxLen]; omega) (by omega) HSW.out ?_; intro v' w5 hown' hgrow _; obtain ⟨A5, c5, rfl, _⟩ := own_rd hown'; have HOWN := Lib.hid hown'; have hg5 := chg_row hgrow; have HG5 := Lib.hid hg5; have hb5 := HBX.out.chg hg5 HNE.out; have v5 : w5.cell? ⟨w.heap.size + 1, 0, none⟩ = some (.slice Au f cu) := (hb5.cell _).trans rfl; have vf5 := hb5.frozen 0; have HB5 := Lib.hid hb5; clear hown' hgrow hg5 hb5)
          go_roundw
          case rel =>
            have hc5 : Chg (fun k => some k = (Value.slice Au f cu).ownBlock) wi w5 := (HCC.out.mono (fun _ _ x => x.elim)).trans HG5.out
            have hcs : Chg (· = w.heap.size + 1) w5 (w5.setCell ⟨w.heap.size + 1, 0, none⟩ (.slice A5 (f + 1) c5)) := (Chg.refl (· = w.heap.size + 1) w5).setCell (p := ⟨w.heap.size + 1, 0, none⟩) (.inl rfl) _
            have hss : (w5.setCell ⟨w.heap.size + 1, 0, none⟩ (.slice A5 (f + 1) c5)).heap.size = w5.heap.size := World.size_setCell _ _ _
            have hlo : ∀ k, some k = (Value.slice Au f cu).ownBlock → w.heap.size + 1 + 1 ≤ k := fun k hk => (HOU.out.lt _ hk.symm).1
            have hs5 := hc5.size
            refine ⟨f + 1, .slice A5 (f + 1) c5, T ++ [⟨g6, c6, List.replicate 6 (-1), rest6⟩], by have := HLT.out; omega, by go_num, ?_, ?_, ?_, ?_, ?_, Lib.hid ?_⟩
            · exact ((HC.out.trans HCI.out).trans' hc5 (fun i hi => .inr (by have := hlo i hi; omega))).own hcs (by omega)
            · exact (((HR.out.chg HCI.out (fun x => x)).chg hc5 (fun hh => by have := hlo _ hh; omega)).chg hcs (by omega))
            · exact HB5.out.set_ 0 _
            · rw [cells_snoc', HRC.out]
              exact own_chg1 HOWN.out hcs (fun g cs hg _ he => by omega)
            · have h0 : RowsO (w.heap.size + 1 + 1) wi.heap.size wi (T ++ [⟨g6, c6, List.replicate 6 (-1), rest6⟩]) := (HRW.out.new HCI.out).snoc ⟨by have h6 : wo.heap.size ≤ g6 := HOK.out.1; have := HVL.out; show w.heap.size + 1 + 1 ≤ g6; omega, HOK.out.2⟩ HOK.out.1
              have hoi := own_chg1 HOU.out HCI.out (fun _ _ _ _ x => x)
              have h1 := h0.chgT hc5 (fun k cs hk hh => own_ne_box hoi hk (Ne.symm ty_ne) hh)
              exact (h1.chg hcs (fun i h1 h2 h3 => by omega)).more (Nat.le_refl _) (by rw [hss]; exact hs5)
            · rw [lists_snoc, hT.out]; unfold emptyRows; rw [← List.replicate_succ']
          case measure => simp [intOf]; have := HLT.out; omega
    · obtain rfl : f = 8 := by omega
      obtain ⟨A8, c8, he, ho8⟩ := OwnS.of_row hou
      injection he with he1 he2 he3
      subst he1 he3
      have hTO : TabO (w.heap.size + 1 + 1) wo.heap.size wo Au cu T := ⟨by rw [HTL.out]; exact ho8, hrows⟩
      have HTO := Lib.hid hTO
      have v0 : wo.cell? ⟨w.heap.size + 1, 0, none⟩ = some (.slice Au 8 cu) := (hbv.cell _).trans rfl
      have r0 : wo.cell? ⟨w.heap.size, 0, none⟩ = some (.slice none 0 0) := (hbr.cell _).trans rfl
      have rf := hbr.frozen 0
      clear hch hbr hbv hou hrows hTO ho8 HOU HRW
      go_wp2_with fail
      (try simp only [Exit.inBlock, Exit.then])
      refine bodyPost_ret (v := .agg #[.slice Au 8 cu]) (by simp [results, Try.results128, go_sem, *]) rfl ?_
      have hcs : Chg (· = w.heap.size) wo (wo.setCell ⟨w.heap.size, 0, none⟩ (.slice Au 8 cu)) := (Chg.refl (· = w.heap.size) wo).setCell (p := ⟨w.heap.size, 0, none⟩) (.inl rfl) _
      have hss : (wo.setCell ⟨w.heap.size, 0, none⟩ (.slice Au 8 cu)).heap.size = wo.heap.size := World.size_setCell _ _ _
      refine ⟨Au, cu, T, rfl, hT.out, HC.out.own hcs (Nat.le_refl _), ?_⟩
      exact (HTO.out.chg hcs (fun i h1 h2 h3 => by omega)).more (by omega) (by rw [hss]; omega)
end Go.Proofs.Ytpiojofmflfkkaa
/- The laws' helpers on saves; tables and saves that came in. -/
namespace Go.Proofs.Ytpiojofmflfkkaa
open Go.RowKit
theorem hcell2 (w : World) (n s : Int) (A : Option Addr) (m c : Nat) : (((w.alloc (.cells #[.int .i64 n, .slice A m c, .int .i64 s] 92)).alloc (.cells #[.int .i64 0, .slice none 0 0, .int .i64 0] 26)).alloc (.cells #[.int .i64 n, .slice none 0 0, .int .i64 0] 26)).cell? ⟨w.heap.size, 2, none⟩ = some (.int .i64 s) :=
  ((((Blk.new w 92 #[.int .i64 n, .slice A m c, .int .i64 s]).chg ((Chg.refl NoB _).alloc _) (fun x => x)).chg ((Chg.refl NoB _).alloc _) (fun x => x)).cell 2).trans rfl
end Go.Proofs.Ytpiojofmflfkkaa
/- The laws' comparisons of numbers, tables and saves that are the same. -/
namespace Go.Proofs.Ytpiojofmflfkkaa
open Go.RowKit
set_option maxRecDepth 100000 in
set_option maxHeartbeats 1000000 in
theorem sameInts_d (F G : Nat → Prop) (A B : Option Addr) (c d : Nat) (xs : List Int) (w : World) (h : Rd F w A (icells xs)) (h' : Rd G w B (icells xs)) (hl : xs.length ≤ 9223372036854775807) :
    Calls Try.prog 36 #[.slice A xs.length c, .slice B xs.length d] w fun e w' => e = .returned (.bool true) ∧ ∃ m, w' = w.drewN m := by
  have hne : ((xs.length : Int) != (xs.length : Int)) = false := by simp
  go_enter Try.func36, Try.ntmps36
  go_wp2
  go_loopw [5] (fun i wr => ∃ k : Nat, k ≤ xs.length ∧ i = .int .i64 k ∧ ∃ m, wr = w.drewN m) (fun i _ => xs.length - (intOf i).toNat)
  case atStart => exact ⟨0, Nat.zero_le _, rfl, 0, rfl⟩
  case round =>
    obtain ⟨k, hk, rfl, m, hwm⟩ := hrel
    have HW := Lib.hid hwm
    have hch : Chg NoB w wr := by rw [hwm]; exact (Chg.refl _ _).drewN _
    clear hwm
    by_cases hlt : k < xs.length
    · obtain ⟨ad, rfl, hf, hbl, hc⟩ := ints_at (h.chg hch fun _ _ x => x) hlt
      obtain ⟨ad', rfl, hf', hbl', hc'⟩ := ints_at (h'.chg hch fun _ _ x => x) hlt
      have hi0 : (0 : Int) ≤ (k : Int) := Int.natCast_nonneg _
      have hi1 : (k : Int) < (xs.length : Int) := by omega
      clear hch
      go_wp2
      go_quiet (fail)
      go_wp2
      go_roundw
      case rel => exact ⟨k + 1, by omega, by go_num, m + nq, by rw [HW.out]; simp [World.drewN, Nat.add_assoc]⟩
      case measure => simp [intOf]; omega
    · clear hch
      go_wp2
      go_ret
      exact ⟨rfl, m, HW.out⟩
set_option maxRecDepth 100000 in
set_option maxHeartbeats 1000000 in
theorem sameTable_t (F G : Nat → Prop) (A B : Option Addr) (c d : Nat) (X : List (List Int)) (w : World) (h : TabR F w A X) (h' : TabR G w B X) (hl : X.length ≤ 9223372036854775807) (hX : ∀ r ∈ X, r.length ≤ 9223372036854775807) :
    Calls Try.prog 14 #[.agg #[.slice A X.length c], .agg #[.slice B X.length d]] w fun e w' => e = .returned (.bool true) ∧ Chg NoB w w' := by
  have hne : ((X.length : Int) != (X.length : Int)) = false := by simp
  obtain ⟨hb1, hb2, hcb⟩ := lit2 w 31 31 #[.slice A X.length c] #[.slice B X.length d]
  have HB1 := Lib.hid hb1
  have HB2 := Lib.hid hb2
  have HC0 := Lib.hid hcb
  clear hb1 hb2 hcb
  go_enter Try.func14, Try.ntmps14
  go_wp2
  go_loopw [5] (fun i wr => ∃ k : Nat, k ≤ X.length ∧ i = .int .i64 k ∧ Chg NoB w wr ∧ Blk wr w.heap.size 31 #[.slice A X.length c] ∧ Blk wr (w.heap.size + 1) 31 #[.slice B X.length d]) (fun i _ => X.length - (intOf i).toNat)
  case atStart => exact ⟨0, Nat.zero_le _, rfl, HC0.out, HB1.out, HB2.out⟩
  case round =>
    obtain ⟨k, hk, rfl, hch, hb1, hb2⟩ := hrel
    have x0 : wr.cell? ⟨w.heap.size, 0, none⟩ = some (.slice A X.length c) := (hb1.cell _).trans rfl
    have y0 : wr.cell? ⟨w.heap.size + 1, 0, none⟩ = some (.slice B X.length d) := (hb2.cell _).trans rfl
    have HC := Lib.hid hch
    have HX := Lib.hid hb1
    have HY := Lib.hid hb2
    by_cases hlt : k < X.length
    · obtain ⟨ad, B1, c1, rfl, hf, hcell, hr, hc1⟩ := (h.new hch) k hlt
      obtain ⟨ad', B2, c2, rfl, hf', hcell', hr', hc2⟩ := (h'.new hch) k hlt
      have hlen := hX _ (List.getElem_mem hlt)
      have hi0 : (0 : Int) ≤ (k : Int) := Int.natCast_nonneg _
      have hi1 : (k : Int) < (X.length : Int) := by omega
      have HQ : ∀ n, Hid (Calls Try.prog 36 #[.slice B1 X[k].length c1, .slice B2 X[k].length c2] (wr.drewN n) fun e w'' => e = .returned (.bool true) ∧ ∃ m', w'' = wr.drewN m') := fun n => Lib.hid (quiet_left2 (sameInts_d _ _ B1 B2 c1 c2 X[k] _ (hr.new ((Chg.refl NoB wr).drewN n)) (hr'.new ((Chg.refl NoB wr).drewN n)) hlen))
      clear hr hr' hlen hch hb1 hb2
      go_wp2
      go_quiet ((go_at_call 36; exact (HQ _).out))
      go_wp2
      go_roundw
      case rel => exact ⟨k + 1, by omega, by go_num, HC.out.drewN _, HX.out.chg ((Chg.refl NoB wr).drewN _) (fun x => x), HY.out.chg ((Chg.refl NoB wr).drewN _) (fun x => x)⟩
      case measure => simp [intOf]; omega
    · clear hch hb1 hb2
      go_wp2
      go_ret
      exact ⟨rfl, HC.out⟩
end Go.Proofs.Ytpiojofmflfkkaa
