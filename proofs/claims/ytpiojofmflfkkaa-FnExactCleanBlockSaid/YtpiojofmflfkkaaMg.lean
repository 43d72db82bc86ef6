/- Parts of the proof, merged: T, Ta, Tb, Tc, Ts, Tt, Tl, Tm, Tx, Tn, Tk, Zt, Ux. -/
import Derived.Test.YtpiojofmflfkkaaMa
import Derived.Deep.QuietTactic
import Derived.BigQuiet
import Derived.BigRegion
/- Tables: what they read as, and TableValid of the program and of the reference. -/
namespace Go.Proofs.Ytpiojofmflfkkaa
open Go.RowKit

/-- The slice at A reads as the lists X; all of it lies in blocks of F. -/
def TabR (F : Nat → Prop) (w : World) (A : Option Addr) (X : List (List Int)) : Prop :=
  ∀ (k : Nat) (h : k < X.length), ∃ ad B c, A = some ad ∧ F ad.block ∧ w.cell? (ad.add k) = some (.slice B X[k].length c) ∧ Rd F w B (icells X[k]) ∧ X[k].length ≤ c
section
variable {F G : Nat → Prop} {w w' : World} {A : Option Addr} {X : List (List Int)}
theorem TabR.mono (h : TabR F w A X) (hg : ∀ i, i < w.heap.size → F i → G i) : TabR G w A X := fun k hk => by
  obtain ⟨ad, B, c, e, hf, hc, hr, h1⟩ := h k hk
  have := World.block_lt_of_cell? w _ hc
  rw [block_add] at this
  exact ⟨ad, B, c, e, hg _ this hf, hc, hr.mono hg, h1⟩
theorem TabR.lt (h : TabR F w A X) : TabR (fun i => F i ∧ i < w.heap.size) w A X := h.mono fun _ hi hf => ⟨hf, hi⟩
theorem TabR.chg (h : TabR F w A X) (hc : Chg G w w') (hd : ∀ i, F i → ¬ G i) : TabR F w' A X := fun k hk => by
  obtain ⟨ad, B, c, e, hf, hcell, hr, h1⟩ := h k hk
  exact ⟨ad, B, c, e, hf, hc.cell hcell (by rw [block_add]; exact hd _ hf), hr.chg hc hd, h1⟩
theorem TabR.new (h : TabR F w A X) (hc : Chg NoB w w') : TabR F w' A X := h.chg hc fun _ _ x => x
end

def rowOk (pre r : List Int) : Prop := r.length = 6 ∧ ∀ k (h : k < r.length), -1 ≤ r[k] ∧ r[k] ≤ 47 ∧ (0 ≤ r[k] → r[k] ∉ pre ++ r.take k)
def tabOk (X : List (List Int)) : Prop := X.length = 8 ∧ ∀ f (h : f < X.length), rowOk (X.take f).flatten X[f]

/-- Which numbers were seen. -/
def seenC (pre : List Int) : List Value := (List.range 48).map fun (j : Nat) => .bool (decide ((j : Int) ∈ pre))
theorem seenC_get (pre : List Int) (k : Nat) (h : k < 48) : (seenC pre)[k]? = some (.bool (decide ((k : Int) ∈ pre))) := by
  unfold seenC; rw [List.getElem?_map, List.getElem?_range h]; rfl
theorem seenC_length (pre : List Int) : (seenC pre).length = 48 := by simp [seenC]
theorem seenC_set (pre : List Int) (k : Nat) (_h : k < 48) : (seenC pre).toArray.setIfInBounds k (.bool true) = (seenC (pre ++ [(k : Int)])).toArray := by
  apply Array.ext'
  rw [Array.toList_setIfInBounds]
  apply List.ext_getElem?
  intro j
  rw [List.getElem?_set]
  simp only [seenC_length]
  by_cases hj : j < 48
  · rw [seenC_get _ _ hj, seenC_get _ _ hj]
    by_cases hkj : k = j
    · subst hkj; simp [hj]
    · simp only [hkj, if_false]
      have : ((j : Int) ∈ pre ++ [(k : Int)]) ↔ (j : Int) ∈ pre := by simp; omega
      simp only [this]
  · have h1 : ∀ p, (seenC p)[j]? = none := fun p => List.getElem?_eq_none (by rw [seenC_length]; omega)
    rw [h1, h1]
    by_cases hkj : k = j
    · omega
    · simp [hkj]
theorem seenC_neg (pre : List Int) (x : Int) (h : x < 0) : seenC (pre ++ [x]) = seenC pre := by
  unfold seenC
  apply List.map_congr_left
  intro j _
  have : ((j : Int) ∈ pre ++ [x]) ↔ (j : Int) ∈ pre := by simp; omega
  simp only [this]
theorem take_flat_succ (X : List (List Int)) (f : Nat) (h : f < X.length) : (X.take (f + 1)).flatten = (X.take f).flatten ++ X[f] := by
  rw [List.take_succ_eq_append_getElem h, List.flatten_append]; simp

theorem pageNumber_any (n : Int) (w : World) :
    Calls Try.prog 70 #[.int .i64 n] w fun e w' => e = .returned (.bool (decide (-1 ≤ n ∧ n ≤ 47))) ∧ w = w' := by
  go_enter Try.func70, Try.ntmps70
  by_cases h : -1 ≤ n
  all_goals by_cases h2 : n ≤ 47
  all_goals go_wp2
  all_goals go_ret
  all_goals exact ⟨ret_bool (by simp [*]; try omega), rfl⟩
theorem pageNumber_t (n : Int) (w : World) (h : -1 ≤ n ∧ n ≤ 47) : Calls Try.prog 70 #[.int .i64 n] w fun e w' => e = .returned (.bool true) ∧ w = w' :=
  (pageNumber_any n w).mono fun e w' ⟨he, hw⟩ => ⟨by rw [he, decide_eq_true h], hw⟩
theorem pageNumber_f (n : Int) (w : World) (h : ¬ (-1 ≤ n ∧ n ≤ 47)) : Calls Try.prog 70 #[.int .i64 n] w fun e w' => e = .returned (.bool false) ∧ w = w' :=
  (pageNumber_any n w).mono fun e w' ⟨he, hw⟩ => ⟨by rw [he, decide_eq_false h], hw⟩

/-- What is known of a row's first k numbers. -/
def rowTo (pre r : List Int) (k : Nat) : Prop := ∀ j (h : j < r.length), j < k → -1 ≤ r[j] ∧ r[j] ≤ 47 ∧ (0 ≤ r[j] → r[j] ∉ pre ++ r.take j)
def tabTo (X : List (List Int)) (f : Nat) : Prop := ∀ j (h : j < X.length), j < f → rowOk (X.take j).flatten X[j]
theorem rowTo_succ {pre r : List Int} {k : Nat} (h : k < r.length) (hr : rowTo pre r k) (h1 : -1 ≤ r[k]) (h2 : r[k] ≤ 47) (h3 : 0 ≤ r[k] → r[k] ∉ pre ++ r.take k) : rowTo pre r (k + 1) := fun j hj hjk => by
  by_cases he : j = k
  · subst he; exact ⟨h1, h2, h3⟩
  · exact hr j hj (by omega)
theorem tabTo_succ {X : List (List Int)} {f : Nat} (h : f < X.length) (hr : tabTo X f) (h1 : X[f].length = 6) (h2 : rowTo (X.take f).flatten X[f] X[f].length) : tabTo X (f + 1) := fun j hj hjk => by
  by_cases he : j = f
  · subst he; exact ⟨h1, fun k hk => h2 k hk hk⟩
  · exact hr j hj (by omega)
theorem seen_step (pre r : List Int) (k : Nat) (h : k < r.length) : pre ++ r.take (k + 1) = (pre ++ r.take k) ++ [r[k]] := by
  rw [List.take_succ_eq_append_getElem h, List.append_assoc]

set_option maxRecDepth 100000 in
set_option maxHeartbeats 2000000 in
theorem iTableValid_any (F : Nat → Prop) (A : Option Addr) (c : Nat) (X : List (List Int)) (w : World) (h : TabR F w A X) :
    Calls Try.prog 17 #[.agg #[.slice A X.length c]] w (Says w (tabOk X)) := by
  by_cases h8 : X.length = 8
  case neg =>
    go_enter Try.func17, Try.ntmps17
    go_wp2
    go_ret
    exact Says.no (fun hh => h8 hh.1) ((Chg.refl _ _).alloc _)
  obtain ⟨hb1, hb2, hcb⟩ := lit2 w 31 107 #[.slice A X.length c] (seenC []).toArray
  have hse : (seenC []).toArray = #[.bool false, .bool false, .bool false, .bool false, .bool false, .bool false, .bool false, .bool false, .bool false, .bool false, .bool false, .bool false, .bool false, .bool false, .bool false, .bool false, .bool false, .bool false, .bool false, .bool false, .bool false, .bool false, .bool false, .bool false, .bool false, .bool false, .bool false, .bool false, .bool false, .bool false, .bool false, .bool false, .bool false, .bool false, .bool false, .bool false, .bool false, .bool false, .bool false, .bool false, .bool false, .bool false, .bool false, .bool false, .bool false, .bool false, .bool false, .bool false] := by rfl
  rw [hse, h8] at hb1 hb2 hcb
  have HC0 := Lib.hid hcb
  have HB2 := Lib.hid (show Blk _ _ _ (seenC ([] ++ [])).toArray from hse ▸ hb2)
  clear hb1 hb2 hcb hse
  go_enter Try.func17, Try.ntmps17
  go_wp2
  go_loopw [15] (fun i wr => ∃ f : Nat, f ≤ 8 ∧ i = .int .i64 f ∧ Chg NoB w wr ∧ Blk wr (w.heap.size + 1) 107 (seenC (X.take f).flatten).toArray ∧ Hid (tabTo X f)) (fun i _ => 8 - (intOf i).toNat)
  case atStart => exact ⟨0, Nat.zero_le _, rfl, HC0.out, HB2.out, Lib.hid (fun j _ hj => by omega)⟩
  case round =>
    obtain ⟨f, hf8, rfl, hch, hb, hto⟩ := hrel
    by_cases hlt : f < 8
    · have hlt' : f < X.length := by omega
      obtain ⟨ad, B, c', rfl, hfF, hcell, hr, hc1⟩ := (h.lt.new hch) f hlt'
      have hi0 : (0 : Int) ≤ (f : Int) := Int.natCast_nonneg _
      have hi1 : (f : Int) < 8 := by omega
      by_cases h6 : X[f].length = 6
      case neg =>
        have h6' : ((X[f].length : Int) != 6) = true := by rw [bne_iff_ne]; omega
        have HC := Lib.hid hch
        clear hch hb hr
        go_wp2
        go_ret
        exact Says.no (fun hh => h6 (hh.2 f hlt').1) HC.out
      have HC := Lib.hid hch
      have HB := Lib.hid (show Blk wr (w.heap.size + 1) 107 (seenC ((X.take f).flatten ++ X[f].take 0)).toArray by simpa using hb)
      have HR := Lib.hid hr
      clear hch hb hr
      go_wp2
      go_loopw [24] (fun i wi => ∃ k : Nat, k ≤ 6 ∧ i = .int .i64 k ∧ Chg (· = w.heap.size + 1) wr wi ∧ Blk wi (w.heap.size + 1) 107 (seenC ((X.take f).flatten ++ X[f].take k)).toArray ∧ Hid (rowTo (X.take f).flatten X[f] k)) (fun i _ => 6 - (intOf i).toNat)
      case atStart => exact ⟨0, Nat.zero_le _, rfl, Chg.refl _ _, HB.out, Lib.hid (fun j _ hj => by omega)⟩
      case round =>
        obtain ⟨k, hk6, rfl, hch, hb, hrow⟩ := hrel
        by_cases hk : k < 6
        · have hk' : k < X[f].length := by omega
          obtain ⟨ad2, rfl, hf2, hbl2, hck⟩ := ints_at (HR.out.chg hch (fun i hi he => by have := hi.2; omega)) hk'
          have HST := Lib.hid (seen_step (X.take f).flatten X[f] k hk')
          have HRT := Lib.hid (rowTo_succ hk' hrow.out)
          have HBAD := Lib.hid (fun hq : tabOk X => (hq.2 f hlt').2 k hk')
          have HCI := Lib.hid hch
          have HCW := Lib.hid (HC.out.own hch (Nat.le_succ _))
          have hi2 : (0 : Int) ≤ (k : Int) := Int.natCast_nonneg _
          generalize X[f][k] = x at hck HST HRT HBAD
          by_cases hx : -1 ≤ x ∧ x ≤ 47
          case neg =>
            have HX := Lib.hid hx
            clear hx hch hb
            go_wp2_with fail
            refine (pageNumber_f x _ HX.out).mono ?_
            rintro e w' ⟨rfl, rfl⟩
            go_wp2
            go_ret
            exact Says.no (fun hq => HX.out ⟨(HBAD.out hq).1, (HBAD.out hq).2.1⟩) HCW.out
          have HX := Lib.hid hx
          obtain ⟨hx0, hx1⟩ := hx
          by_cases hneg : x < 0
          · have HB2 := Lib.hid hb
            clear hch hb
            go_wp2_with fail
            refine (pageNumber_t x _ HX.out).mono ?_
            rintro e w' ⟨rfl, rfl⟩
            go_wp2
            go_roundw
            case rel =>
              refine ⟨k + 1, by omega, by go_num, HCI.out, ?_, Lib.hid (HRT.out hx0 hx1 (fun h0 => by omega))⟩
              rw [HST.out, seenC_neg _ _ hneg]
              exact HB2.out
            case measure => simp [intOf]; omega
          · obtain ⟨n, rfl⟩ := Int.eq_ofNat_of_zero_le (show 0 ≤ x by omega)
            have hn : n < 48 := by omega
            have hcn : wr.cell? ⟨w.heap.size + 1, n, none⟩ = some (.bool (decide ((n : Int) ∈ (X.take f).flatten ++ X[f].take k))) := by
              rw [hb.cell, List.getElem?_toArray]; exact seenC_get _ n hn
            have hfr := hb.frozen n
            have HB2 := Lib.hid hb
            clear hb hch
            by_cases hm : (n : Int) ∈ (X.take f).flatten ++ X[f].take k
            · rw [decide_eq_true hm] at hcn
              have HM := Lib.hid hm
              clear hm
              go_wp2_with fail
              refine (pageNumber_t _ _ HX.out).mono ?_
              rintro e w' ⟨rfl, rfl⟩
              go_wp2
              go_ret
              exact Says.no (fun hq => (HBAD.out hq).2.2 (by omega) HM.out) HCW.out
            · rw [decide_eq_false hm] at hcn
              have HM := Lib.hid hm
              clear hm
              go_wp2_with fail
              refine (pageNumber_t _ _ HX.out).mono ?_
              rintro e w' ⟨rfl, rfl⟩
              go_wp2
              go_roundw
              case rel =>
                refine ⟨k + 1, by omega, by go_num, HCI.out.setCell (.inl rfl) _, ?_, Lib.hid (HRT.out hx0 hx1 (fun _ => HM.out))⟩
                rw [HST.out, ← seenC_set _ n hn]
                exact HB2.out.set_ n _
              case measure => simp [intOf]; omega
        · obtain rfl : k = 6 := by omega
          have HB2 := Lib.hid hb
          have HCW := Lib.hid (HC.out.own hch (Nat.le_succ _))
          clear hb hch
          go_wp2
          go_roundw
          case rel =>
            refine ⟨f + 1, by omega, by go_num, HCW.out, ?_, Lib.hid (tabTo_succ hlt' hto.out h6 (by rw [h6]; exact hrow.out))⟩
            rw [take_flat_succ X f hlt']
            have := HB2.out
            rwa [List.take_of_length_le (l := X[f]) (i := 6) (by omega)] at this
          case measure => simp [intOf]; omega
    · obtain rfl : f = 8 := by omega
      have HC := Lib.hid hch
      clear hch hb
      go_wp2
      go_ret
      exact Says.yes ⟨h8, fun j hj => hto.out j hj (by omega)⟩ HC.out

theorem info_bool : (Try.prog.info? 4).map (fun i => (i.zero, i.size, i.bytes)) = some (some (.bool false), 1, 1) := by kernel_rfl
theorem seenC_nil : seenC [] = reps 48 [.bool false] := by rfl
set_option maxRecDepth 100000 in
set_option maxHeartbeats 2000000 in
theorem sTableValid_any (F : Nat → Prop) (A : Option Addr) (c : Nat) (X : List (List Int)) (w : World) (h : TabR F w A X) (hl : X.length ≤ 9223372036854775807) (hX : ∀ r ∈ X, r.length ≤ 9223372036854775807) :
    Calls Try.prog 76 #[.agg #[.slice A X.length c]] w (Says w (tabOk X)) := by
  obtain ⟨i0, hi, hz0, hz1, hz2⟩ := info_parts info_bool
  have hmk : ∀ W, (Instr.makeSlice 157 (.int .i64 48) (.int .i64 48)).run Try.prog W = .ok (.slice (some ⟨W.heap.size, 0, none⟩) 48 48) (W.alloc (.cells (reps 48 [.bool false]).toArray 4)) := fun W => run_make_reps (P := Try.prog) 157 4 i0 (.bool false) [.bool false] Try.underlying157 hi hz0 rfl hz1 48 (by rw [hz2]; omega) (by omega) W
  obtain ⟨hb1, hb2, hcb⟩ := lit2 w 31 4 #[.slice A X.length c] (reps 48 [.bool false]).toArray
  have HC0 := Lib.hid hcb
  have HB1 := Lib.hid hb1
  have HB2 := Lib.hid (show Blk _ _ _ (seenC []).toArray from seenC_nil ▸ hb2)
  clear hb1 hb2 hcb
  go_enter Try.func76, Try.ntmps76
  go_wp2
  go_loopw [4] (fun i wr => ∃ f : Nat, f ≤ X.length ∧ i = .int .i64 f ∧ Chg NoB w wr ∧ wr.cell? ⟨w.heap.size, 0, none⟩ = some (.slice A X.length c) ∧ Blk wr (w.heap.size + 1) 4 (seenC (X.take f).flatten).toArray ∧ Hid (tabTo X f)) (fun i _ => X.length - (intOf i).toNat)
  case atStart => exact ⟨0, Nat.zero_le _, rfl, HC0.out, by rw [HB1.out.cell]; rfl, HB2.out, Lib.hid (fun j _ hj => by omega)⟩
  case round =>
    obtain ⟨f, hfl, rfl, hch, z0, hb, hto⟩ := hrel
    by_cases hlt : f < X.length
    · obtain ⟨ad, B, c', rfl, hfF, hcell, hr, hc1⟩ := (h.lt.new hch) f hlt
      have hi0 : (0 : Int) ≤ (f : Int) := Int.natCast_nonneg _
      have hi1 : (f : Int) < (X.length : Int) := by omega
      have hXf := hX _ (List.getElem_mem hlt)
      have HC := Lib.hid hch
      have HB := Lib.hid (show Blk wr (w.heap.size + 1) 4 (seenC ((X.take f).flatten ++ X[f].take 0)).toArray by simpa using hb)
      have HR := Lib.hid hr
      have HAD := Lib.hid (show ∀ wi, Chg (· = w.heap.size + 1) wr wi → wi.cell? (ad.add f) = some (.slice B X[f].length c') from fun wi hq => hq.cell hcell (by rw [block_add]; have := hfF.2; omega))
      have HZ := Lib.hid (show ∀ wi, Chg (· = w.heap.size + 1) wr wi → wi.cell? ⟨w.heap.size, 0, none⟩ = some (.slice (some ad) X.length c) from fun wi hq => hq.cell z0 (by simp))
      clear hch hb hr hcell
      go_wp2
      go_loopw [5] (fun i wi => ∃ k : Nat, k ≤ X[f].length ∧ i = .int .i64 k ∧ Chg (· = w.heap.size + 1) wr wi ∧ Blk wi (w.heap.size + 1) 4 (seenC ((X.take f).flatten ++ X[f].take k)).toArray ∧ Hid (rowTo (X.take f).flatten X[f] k)) (fun i _ => X[f].length - (intOf i).toNat)
      case atStart => exact ⟨0, Nat.zero_le _, rfl, Chg.refl _ _, HB.out, Lib.hid (fun j _ hj => by omega)⟩
      case round =>
        obtain ⟨k, hk6, rfl, hch, hb, hrow⟩ := hrel
        have hcell := HAD.out _ hch
        have z0 := HZ.out _ hch
        by_cases hk : k < X[f].length
        · obtain ⟨ad2, rfl, hf2, hbl2, hck⟩ := ints_at (HR.out.chg hch (fun i hi he => by have := hi.2; omega)) hk
          have HST := Lib.hid (seen_step (X.take f).flatten X[f] k hk)
          have HRT := Lib.hid (rowTo_succ hk hrow.out)
          have HBAD := Lib.hid (fun hq : tabOk X => (hq.2 f hlt).2 k hk)
          have HCI := Lib.hid hch
          have HCW := Lib.hid (HC.out.own hch (Nat.le_succ _))
          have hi2 : (0 : Int) ≤ (k : Int) := Int.natCast_nonneg _
          have hi3 : (k : Int) < (X[f].length : Int) := by omega
          generalize X[f][k] = x at hck HST HRT HBAD
          by_cases hx : -1 ≤ x ∧ x ≤ 47
          case neg =>
            have HX := Lib.hid hx
            clear hx hch hb
            go_wp2_with fail
            refine (l1In_f x _ _ _ HX.out).mono ?_
            rintro e w' ⟨rfl, rfl⟩
            go_wp2
            go_ret
            exact Says.no (fun hq => HX.out ⟨(HBAD.out hq).1, (HBAD.out hq).2.1⟩) HCW.out
          have HX := Lib.hid hx
          obtain ⟨hx0, hx1⟩ := hx
          by_cases hneg : x < 0
          · have HB2 := Lib.hid hb
            clear hch hb
            go_wp2_with fail
            refine (l1In_t x _ _ _ HX.out).mono ?_
            rintro e w' ⟨rfl, rfl⟩
            go_wp2
            go_roundw
            case rel =>
              refine ⟨k + 1, by omega, by go_num, HCI.out, ?_, Lib.hid (HRT.out hx0 hx1 (fun h0 => by omega))⟩
              rw [HST.out, seenC_neg _ _ hneg]
              exact HB2.out
            case measure => simp [intOf]; omega
          · obtain ⟨n, rfl⟩ := Int.eq_ofNat_of_zero_le (show 0 ≤ x by omega)
            have hn : n < 48 := by omega
            have hcn : wr.cell? ⟨w.heap.size + 1, n, none⟩ = some (.bool (decide ((n : Int) ∈ (X.take f).flatten ++ X[f].take k))) := by
              rw [hb.cell, List.getElem?_toArray]; exact seenC_get _ n hn
            have hfr := hb.frozen n
            have HB2 := Lib.hid hb
            clear hb hch
            by_cases hm : (n : Int) ∈ (X.take f).flatten ++ X[f].take k
            · rw [decide_eq_true hm] at hcn
              have HM := Lib.hid hm
              clear hm
              go_wp2_with fail
              refine (l1In_t _ _ _ _ HX.out).mono ?_
              rintro e w' ⟨rfl, rfl⟩
              go_wp2
              go_ret
              exact Says.no (fun hq => (HBAD.out hq).2.2 (by omega) HM.out) HCW.out
            · rw [decide_eq_false hm] at hcn
              have HM := Lib.hid hm
              clear hm
              go_wp2_with fail
              refine (l1In_t _ _ _ _ HX.out).mono ?_
              rintro e w' ⟨rfl, rfl⟩
              go_wp2
              go_roundw
              case rel =>
                refine ⟨k + 1, by omega, by go_num, HCI.out.setCell (.inl rfl) _, ?_, Lib.hid (HRT.out hx0 hx1 (fun _ => HM.out))⟩
                rw [HST.out, ← seenC_set _ n hn]
                exact HB2.out.set_ n _
              case measure => simp [intOf]; omega
        · have hkl : k = X[f].length := by omega
          subst hkl
          have HB2 := Lib.hid hb
          have HCW := Lib.hid (HC.out.own hch (Nat.le_succ _))
          clear hb hch
          by_cases h6 : X[f].length = 6
          · have h6' : ((X[f].length : Int) != 6) = false := by rw [bne_eq_false_iff_eq]; omega
            have H6 := Lib.hid h6
            clear h6
            go_wp2
            go_roundw
            case rel =>
              refine ⟨f + 1, by omega, by go_num, HCW.out, z0, ?_, Lib.hid (tabTo_succ hlt hto.out H6.out hrow.out)⟩
              rw [take_flat_succ X f hlt]
              have := HB2.out
              rwa [List.take_length] at this
            case measure => simp [intOf]; omega
          · have h6' : ((X[f].length : Int) != 6) = true := by rw [bne_iff_ne]; omega
            have H6 := Lib.hid h6
            clear h6
            go_wp2
            go_ret
            exact Says.no (fun hh => H6.out (hh.2 f hlt).1) HCW.out
    · have hfx : f = X.length := by omega
      subst hfx
      have HC := Lib.hid hch
      clear hch hb
      go_wp2
      go_ret
      refine Says.both ?_ HC.out
      constructor
      · intro h8; exact ⟨by have := of_decide_eq_true h8; omega, fun j hj => hto.out j hj hj⟩
      · intro h8; exact decide_eq_true (by have := h8.1; omega)
end Go.Proofs.Ytpiojofmflfkkaa
/- Tables that a call has built; the laws' helpers on tables. -/
namespace Go.Proofs.Ytpiojofmflfkkaa
open Go.RowKit

/-- A list of a table: its block, its room, its numbers. -/
structure RowO where
  g : Nat
  c : Nat
  xs : List Int
  rest : List Value
def RowO.cell (r : RowO) : Value := .slice (some ⟨r.g, 0, none⟩) r.xs.length r.c
def RowO.ok (B E : Nat) (w : World) (r : RowO) : Prop := B ≤ r.g ∧ r.g < E ∧ Blk w r.g 3 (icells r.xs ++ r.rest).toArray ∧ r.xs.length ≤ r.c
def RowsO (B E : Nat) (w : World) (T : List RowO) : Prop := (∀ r ∈ T, r.ok B E w) ∧ (T.map (·.g)).Nodup
def listsOf (T : List RowO) : List (List Int) := T.map (·.xs)
def TabO (B E : Nat) (w : World) (A : Option Addr) (c : Nat) (T : List RowO) : Prop := OwnS B E w 24 A T.length c (T.map RowO.cell) ∧ RowsO B E w T
theorem ty_ne : (3 : Nat) ≠ 24 := by decide
theorem Blk.ty {w : World} {g : Nat} {t t' : TypeId} {cs cs' : Array Value} (h : Blk w g t cs) (h' : Blk w g t' cs') : t = t' := by
  unfold Blk at h h'
  rw [h] at h'
  injection h' with h'
  injection h'
section
variable {F : Nat → Prop} {w w' : World} {B E B' E' : Nat} {T : List RowO} {A : Option Addr} {c : Nat}
theorem RowO.ok.chg {r : RowO} (h : r.ok B E w) (hc : Chg F w w') (hf : ¬ F r.g) : r.ok B E w' := ⟨h.1, h.2.1, h.2.2.1.chg hc hf, h.2.2.2⟩
theorem RowsO.nil (B E : Nat) (w : World) : RowsO B E w [] := ⟨fun _ h => absurd h (by simp), List.nodup_nil⟩
theorem RowsO.chg (h : RowsO B E w T) (hc : Chg F w w') (hf : ∀ i, B ≤ i → i < E → ¬ F i) : RowsO B E w' T := ⟨fun r hr => (h.1 r hr).chg hc (hf _ (h.1 r hr).1 (h.1 r hr).2.1), h.2⟩
theorem RowsO.new (h : RowsO B E w T) (hc : Chg NoB w w') : RowsO B E w' T := h.chg hc fun _ _ _ x => x
theorem RowsO.more (h : RowsO B E w T) (hB : B' ≤ B) (hE : E ≤ E') : RowsO B' E' w T := ⟨fun r hr => by obtain ⟨h1, h2, h3⟩ := h.1 r hr; exact ⟨Nat.le_trans hB h1, Nat.lt_of_lt_of_le h2 hE, h3⟩, h.2⟩
theorem RowsO.snoc (h : RowsO B E w T) {r : RowO} (hr : r.ok B E' w) (hE : E ≤ r.g) : RowsO B E' w (T ++ [r]) := by
  refine ⟨fun q hq => ?_, ?_⟩
  · rcases List.mem_append.1 hq with h1 | h1
    · obtain ⟨a, b, d⟩ := h.1 q h1
      exact ⟨a, Nat.lt_of_lt_of_le b (Nat.le_trans hE (Nat.le_of_lt hr.2.1)), d⟩
    · simp at h1; subst h1; exact hr
  · rw [List.map_append, List.nodup_append]
    refine ⟨h.2, by simp, fun a ha b hb => ?_⟩
    simp at hb
    obtain ⟨q, hq, rfl⟩ := List.mem_map.1 ha
    have := (h.1 q hq).2.1
    omega
theorem TabO.chg (h : TabO B E w A c T) (hc : Chg F w w') (hf : ∀ i, B ≤ i → i < E → ¬ F i) : TabO B E w' A c T := ⟨h.1.chg hc hf, h.2.chg hc hf⟩
theorem TabO.new (h : TabO B E w A c T) (hc : Chg NoB w w') : TabO B E w' A c T := h.chg hc fun _ _ _ x => x
theorem TabO.more (h : TabO B E w A c T) (hB : B' ≤ B) (hE : E ≤ E') : TabO B' E' w A c T := ⟨h.1.more hB hE, h.2.more hB hE⟩
theorem RowO.ok.rd {r : RowO} (h : r.ok B E w) : Rd (fun i => B ≤ i ∧ i < E) w (some ⟨r.g, 0, none⟩) (icells r.xs) := fun k v hk => by
  have h1 := (h.2.2.1.rd) k v (by rw [List.getElem?_append_left (List.getElem?_eq_some_iff.1 hk).1]; exact hk)
  obtain ⟨ad, e, hf, hc⟩ := h1
  refine ⟨ad, e, ?_, hc⟩
  rw [hf]
  exact ⟨h.1, h.2.1⟩
theorem TabO.reads (h : TabO B E w A c T) : TabR (fun i => B ≤ i ∧ i < E) w A (listsOf T) := fun k hk => by
  have hk' : k < T.length := by simpa [listsOf] using hk
  obtain ⟨ad, e, hf, _, hc⟩ := h.1.rd.at_ (k := k) (by simpa using hk')
  rw [List.getElem_map] at hc
  have hok := h.2.1 T[k] (List.getElem_mem hk')
  have e1 : (listsOf T)[k] = T[k].xs := by simp [listsOf]
  refine ⟨ad, some ⟨T[k].g, 0, none⟩, T[k].c, e, hf, ?_, ?_, ?_⟩
  · rw [e1]; exact hc
  · rw [e1]; exact hok.rd
  · rw [e1]; exact hok.2.2.2
theorem TabO.nil (B E : Nat) (w : World) (A : Option Addr) (c : Nat) : TabO B E w A c [] := ⟨OwnS.empty _ _ _ _ _ _, RowsO.nil _ _ _⟩
end
theorem listsOf_length (T : List RowO) : (listsOf T).length = T.length := by simp [listsOf]

/-- What is left of a number behind so many elements; -1 if that is less than none. -/
def szOf (left : Int) (n : Nat) : Int := if left < (n : Int) then -1 else left - (n : Int)
theorem szIntS_g (A : Option Addr) (n c : Nat) (left : Int) (w : World) (hn : n ≤ maxLen) (h0 : 0 ≤ left) (h1 : left ≤ 1048576) :
    Calls Try.prog 115 #[.slice A n c, .int .i64 left] w fun e w' => e = .returned (.int .i64 (szOf left n)) ∧ w = w' := by
  unfold maxLen at hn
  unfold szOf
  by_cases h : left < (n : Int)
  · rw [if_pos h]
    go_enter Try.func115, Try.ntmps115
    go_wp2
    go_ret
    exact ⟨rfl, rfl⟩
  · rw [if_neg h]
    go_enter Try.func115, Try.ntmps115
    go_wp2
    go_ret
    exact ⟨rfl, rfl⟩
def lensTo (X : List (List Int)) (k : Nat) : Nat := X.length + ((X.take k).map List.length).sum
def total (X : List (List Int)) : Nat := X.length + (X.map List.length).sum
theorem lensTo_succ (X : List (List Int)) (k : Nat) (h : k < X.length) : lensTo X (k + 1) = lensTo X k + X[k].length := by
  unfold lensTo; rw [List.take_succ_eq_append_getElem h, List.map_append, List.sum_append]; simp; omega
theorem lensTo_le (X : List (List Int)) (k : Nat) : lensTo X k ≤ total X := by
  unfold lensTo total
  have : (X.map List.length).sum = ((X.take k).map List.length).sum + ((X.drop k).map List.length).sum := by
    rw [← List.sum_append, ← List.map_append, List.take_append_drop]
  omega
theorem lensTo_full (X : List (List Int)) : lensTo X X.length = total X := by unfold lensTo total; rw [List.take_length]
theorem total_row (X : List (List Int)) (k : Nat) (h : k < X.length) : X[k].length ≤ total X := by
  have := lensTo_succ X k h
  have := lensTo_le X (k + 1)
  omega

set_option maxRecDepth 100000 in
set_option maxHeartbeats 1000000 in
theorem szIntSS_g (F : Nat → Prop) (A : Option Addr) (c : Nat) (X : List (List Int)) (left : Int) (w : World) (h : TabR F w A X) (hX : ∀ r ∈ X, r.length ≤ maxLen) (hn : X.length ≤ maxLen) (h0 : 0 ≤ left) (h1 : left ≤ 1048576) :
    Calls Try.prog 74 #[.slice A X.length c, .int .i64 left] w fun e w' => e = .returned (.int .i64 (szOf left (total X))) ∧ w = w' := by
  have hn' := hn
  unfold maxLen at hn'
  by_cases hlt : left < (X.length : Int)
  · have hs : szOf left (total X) = -1 := by unfold szOf total; rw [if_pos (by omega)]
    rw [hs]
    go_enter Try.func74, Try.ntmps74
    go_wp2
    go_ret
    exact ⟨rfl, rfl⟩
  go_enter Try.func74, Try.ntmps74
  go_wp2
  go_loop [1, 5] (fun v i => ∃ k : Nat, k ≤ X.length ∧ i = .int .i64 k ∧ v = .int .i64 (left - (lensTo X k : Nat)) ∧ Hid ((lensTo X k : Int) ≤ left)) (fun _ i => X.length - (intOf i).toNat)
  case atStart => exact ⟨0, Nat.zero_le _, rfl, by simp [lensTo], Lib.hid (by simp [lensTo]; omega)⟩
  case round =>
    obtain ⟨k, hk, rfl, rfl, hle⟩ := hrel
    by_cases hk1 : k < X.length
    · obtain ⟨ad, B, c', rfl, hf, hcell, hr, hc1⟩ := h k hk1
      have hlen := hX _ (List.getElem_mem hk1)
      have HL := Lib.hid (lensTo_succ X k hk1)
      have hle' := hle.out
      go_wp2_with fail
      refine (szIntS_g B X[k].length c' _ _ hlen (by omega) (by omega)).mono ?_
      rintro e w' ⟨rfl, rfl⟩
      by_cases hneg : left - (lensTo X k : Nat) < (X[k].length : Int)
      · have hs : szOf (left - (lensTo X k : Nat)) X[k].length = -1 := by unfold szOf; rw [if_pos hneg]
        rw [hs]
        have hs2 : szOf left (total X) = -1 := by have := lensTo_le X (k + 1); have := HL.out; unfold szOf; rw [if_pos (by omega)]
        have HS := Lib.hid hs2
        clear hs hs2
        go_wp2
        go_ret
        exact ⟨ret_int HS.out.symm, rfl⟩
      · have hs : szOf (left - (lensTo X k : Nat)) X[k].length = left - (lensTo X (k + 1) : Nat) := by have := HL.out; unfold szOf; rw [if_neg hneg]; omega
        rw [hs]
        have hle2 : (lensTo X (k + 1) : Int) ≤ left := by have := HL.out; omega
        have hnn : ¬ (left - (lensTo X (k + 1) : Nat) < 0) := by omega
        go_wp2
        go_round
        case rel => exact ⟨k + 1, by omega, by go_num, rfl, Lib.hid hle2⟩
        case measure => simp [intOf]; omega
    · have hk' : k = X.length := by omega
      subst hk'
      have HT := Lib.hid (lensTo_full X)
      have hle' := hle.out
      go_wp2
      go_ret
      rw [HT.out] at hle'
      exact ⟨ret_int (by unfold szOf; rw [if_neg (by omega)]; first | rfl | rw [HT.out]), rfl⟩
theorem szTable_g (F : Nat → Prop) (A : Option Addr) (c : Nat) (X : List (List Int)) (left : Int) (w : World) (h : TabR F w A X) (hX : ∀ r ∈ X, r.length ≤ maxLen) (hn : X.length ≤ maxLen) (h0 : 0 ≤ left) (h1 : left ≤ 1048576) :
    Calls Try.prog 20 #[.agg #[.slice A X.length c], .int .i64 left] w fun e w' => e = .returned (.int .i64 (szOf left (total X))) ∧ Chg NoB w w' := by
  have HC := Lib.hid ((Chg.refl NoB w).alloc (.cells #[.slice A X.length c] 41))
  have h' := h.lt.new HC.out
  go_enter Try.func20, Try.ntmps20
  go_wp2_with fail
  refine (szIntSS_g _ A c X left _ h' hX hn h0 h1).mono ?_
  rintro e w' ⟨rfl, rfl⟩
  by_cases hlt : szOf left (total X) < 0
  · have hs : szOf left (total X) = -1 := by unfold szOf at hlt ⊢; split <;> omega
    have HS := Lib.hid hs
    clear hs
    go_wp2
    go_ret
    exact ⟨ret_int HS.out.symm, HC.out⟩
  · go_wp2
    go_ret
    exact ⟨rfl, HC.out⟩
end Go.Proofs.Ytpiojofmflfkkaa
/- The laws' helpers on tables: copies, comparisons, marks. -/
namespace Go.Proofs.Ytpiojofmflfkkaa
open Go.RowKit
theorem info_ints : (Try.prog.info? 24).map (fun i => (i.zero, i.size, i.bytes)) = some (some (.slice none 0 0), 1, 24) := by kernel_rfl
theorem cells_snoc (T : List RowO) (r : RowO) : (T ++ [r]).map RowO.cell = T.map RowO.cell ++ [r.cell] := by simp

set_option maxRecDepth 100000 in
set_option maxHeartbeats 2000000 in
theorem toIntSS_any (F : Nat → Prop) (A : Option Addr) (c : Nat) (X : List (List Int)) (w : World) (h : TabR F w A X) (hX : total X ≤ 1048576) :
    Calls Try.prog 84 #[.slice A X.length c] w fun e w' => ∃ g T, e = .returned (.slice (some ⟨g, 0, none⟩) X.length X.length) ∧ listsOf T = X ∧ w.heap.size ≤ g ∧ Chg NoB w w' ∧ TabO w.heap.size w'.heap.size w' (some ⟨g, 0, none⟩) X.length T := by
  obtain ⟨i0, hi, hz0, hz1, hz2⟩ := info_parts info_ints
  have hXl : X.length ≤ 1048576 := by unfold total at hX; omega
  have hmk := fun W => run_make_reps (P := Try.prog) 29 24 i0 (.slice none 0 0) [.slice none 0 0] Try.underlying29 hi hz0 rfl hz1 X.length (by rw [hz2]; omega) (by omega) W
  go_enter Try.func84, Try.ntmps84
  go_wp2
  go_loopw [4] (fun i wr => ∃ (k : Nat) (T : List RowO), k ≤ X.length ∧ i = .int .i64 k ∧ Chg NoB w wr ∧ Hid (listsOf T = X.take k) ∧ RowsO (w.heap.size + 1) wr.heap.size wr T ∧ Blk wr w.heap.size 24 (T.map RowO.cell ++ reps (X.length - k) [.slice none 0 0]).toArray) (fun i _ => X.length - (intOf i).toNat)
  case atStart => exact ⟨0, [], Nat.zero_le _, rfl, (Chg.refl _ _).alloc _, Lib.hid rfl, RowsO.nil _ _ _, Blk.new _ _ _⟩
  case round =>
    obtain ⟨k, T, hk, rfl, hch, hT, hrows, hb⟩ := hrel
    have hTl : T.length = k := by have := congrArg List.length hT.out; rw [listsOf_length, List.length_take] at this; omega
    by_cases hlt : k < X.length
    · obtain ⟨ad, B, c', rfl, hf, hcell, hr, hc1⟩ := (h.lt.new hch) k hlt
      have hlen : X[k].length ≤ 1048576 := by have := total_row X k hlt; omega
      have hi0 : (0 : Int) ≤ (k : Int) := Int.natCast_nonneg _
      have hi1 : (k : Int) < (X.length : Int) := by omega
      have HC := Lib.hid hch
      have HB := Lib.hid hb
      have HR := Lib.hid hrows
      clear hch hb hrows
      go_wp2_with fail
      refine (toIntS_any _ B c' X[k] _ hr hlen).mono ?_
      rintro e w1 ⟨g1, rfl, hg1, hc2, hb1⟩
      have hb2 := HB.out.chg hc2 (fun x => x)
      obtain ⟨r, hr⟩ : ∃ r, X.length - k = r + 1 := ⟨X.length - k - 1, by omega⟩
      have hr1 : X.length - (k + 1) = r := by omega
      rw [hr, reps_succ] at hb2
      have hlenT : (T.map RowO.cell).length = k := by rw [List.length_map, hTl]
      have hroom := hb2.room hlenT
      have hfr := hb2.frozen k
      have hsz := HC.out.size
      have hws := HB.out.lt
      have HF := Lib.hid (hb2.fill1 hlenT (.slice (some ⟨g1, 0, none⟩) X[k].length X[k].length))
      have hcs : Chg (· = w.heap.size) w1 (w1.setCell ⟨w.heap.size, k, none⟩ (.slice (some ⟨g1, 0, none⟩) X[k].length X[k].length)) := (Chg.refl (· = w.heap.size) w1).setCell (p := ⟨w.heap.size, k, none⟩) (.inl rfl) _
      have hg2 : w.heap.size + 1 ≤ g1 := by omega
      have hg3 : wr.heap.size ≤ g1 := by omega
      have hok : RowO.ok (w.heap.size + 1) w1.heap.size w1 ⟨g1, X[k].length, X[k], []⟩ := ⟨hg2, hb1.lt, by rw [List.append_nil]; exact hb1, Nat.le_refl _⟩
      have hsz1 : (w1.setCell ⟨w.heap.size, k, none⟩ (.slice (some ⟨g1, 0, none⟩) X[k].length X[k].length)).heap.size = w1.heap.size := by simp [World.setCell]
      have HRW := Lib.hid (((HR.out.new hc2).snoc hok hg3).chg hcs (fun i h1 h2 => by omega))
      have HCW := Lib.hid ((HC.out.trans hc2).setCell (p := ⟨w.heap.size, k, none⟩) (.inr (Nat.le_refl _)) (.slice (some ⟨g1, 0, none⟩) X[k].length X[k].length))
      have HSZ := Lib.hid hsz1
      have HL := Lib.hid (show listsOf (T ++ [⟨g1, X[k].length, X[k], []⟩]) = X.take (k + 1) by
        unfold listsOf at *
        rw [List.map_append, hT.out, List.take_succ_eq_append_getElem hlt]; rfl)
      have HR1 := Lib.hid hr1
      clear hr hr1 hlenT hb2 hb1 hok hcs hsz1 hc2 hcell hg1 hg2 hg3
      go_wp2
      go_roundw
      case rel =>
        refine ⟨k + 1, T ++ [⟨g1, X[k].length, X[k], []⟩], by omega, by go_num, HCW.out, HL, by rw [HSZ.out]; exact HRW.out, ?_⟩
        rw [HR1.out, cells_snoc, List.append_assoc]
        exact HF.out
      case measure => simp [intOf]; omega
    · have hk' : k = X.length := by omega
      subst hk'
      have HB := Lib.hid hb
      have HC := Lib.hid hch
      have HR := Lib.hid hrows
      clear hb hch hrows
      go_wp2
      go_ret
      have hTX : listsOf T = X := by have := hT.out; rwa [List.take_length] at this
      refine ⟨w.heap.size, T, rfl, hTX, Nat.le_refl _, HC.out, ?_, HR.out.more (by omega) (Nat.le_refl _)⟩
      have hb := HB.out
      rw [Nat.sub_self, reps_zero, List.append_nil] at hb
      rw [← listsOf_length, hTX]
      exact OwnS.of_blk hb (Nat.le_refl _) hb.lt (Nat.le_refl _)

set_option maxRecDepth 100000 in
set_option maxHeartbeats 1000000 in
theorem toTable_any (F : Nat → Prop) (A : Option Addr) (c : Nat) (X : List (List Int)) (w : World) (h : TabR F w A X) (hX : total X ≤ 1048576) :
    Calls Try.prog 23 #[.agg #[.slice A X.length c]] w fun e w' => ∃ g T, e = .returned (.agg #[.slice (some ⟨g, 0, none⟩) X.length X.length]) ∧ listsOf T = X ∧ Chg NoB w w' ∧ TabO w.heap.size w'.heap.size w' (some ⟨g, 0, none⟩) X.length T := by
  have hca := (Chg.refl NoB w).alloc (.cells #[.slice A X.length c] 41)
  obtain ⟨hb1, hb2, hcb⟩ := lit2 (w.alloc (.cells #[.slice A X.length c] 41)) 31 31 #[.slice none 0 0] #[.slice none 0 0]
  rw [World.size_alloc] at hb1 hb2
  have HC := Lib.hid (hca.trans hcb)
  have HR0 := Lib.hid (h.lt.new HC.out)
  have HB1 := Lib.hid hb1
  have HB2 := Lib.hid hb2
  clear hca hcb hb1 hb2
  go_enter Try.func23, Try.ntmps23
  go_wp2_with fail
  refine (toIntSS_any _ A c X _ HR0.out hX).mono ?_
  rintro e' w1 ⟨g, T, rfl, hT, hg, hc1, hO⟩
  have hb1 := HB1.out.chg hc1 (fun x => x)
  have hb2 := HB2.out.chg hc1 (fun x => x)
  have x0 : w1.cell? ⟨w.heap.size + 1, 0, none⟩ = some (.slice none 0 0) := (hb1.cell _).trans rfl
  have y0 : w1.cell? ⟨w.heap.size + 1 + 1, 0, none⟩ = some (.slice none 0 0) := (hb2.cell _).trans rfl
  have f0 := hb1.frozen 0
  have f1 := hb2.frozen 0
  have hsz : w.heap.size + 1 + 1 < (((w.alloc (.cells #[.slice A X.length c] 41)).alloc (.cells #[.slice none 0 0] 31)).alloc (.cells #[.slice none 0 0] 31)).heap.size := HB2.out.lt
  have HSZ := Lib.hid hsz
  have HC1 := Lib.hid (HC.out.trans hc1)
  have HO := Lib.hid hO
  have HT := Lib.hid hT
  clear hb1 hb2 hc1 hO hsz hg hT
  go_wp2_with fail
  (try simp only [Exit.inBlock, Exit.then])
  refine bodyPost_ret (v := .agg #[.slice (some ⟨g, 0, none⟩) X.length X.length]) (by simp [results, Try.results23, go_sem, *]) rfl ?_
  have hcs : Chg (fun i => i = w.heap.size + 1 ∨ i = w.heap.size + 1 + 1) w1 ((w1.setCell ⟨w.heap.size + 1 + 1, 0, none⟩ (.slice (some ⟨g, 0, none⟩) X.length X.length)).setCell ⟨w.heap.size + 1, 0, none⟩ (.slice (some ⟨g, 0, none⟩) X.length X.length)) := ((Chg.refl (fun i => i = w.heap.size + 1 ∨ i = w.heap.size + 1 + 1) w1).setCell (p := ⟨w.heap.size + 1 + 1, 0, none⟩) (.inl (.inr rfl)) _).setCell (p := ⟨w.heap.size + 1, 0, none⟩) (.inl (.inl rfl)) _
  have hw : ((w1.setCell ⟨w.heap.size + 1 + 1, 0, none⟩ (.slice (some ⟨g, 0, none⟩) X.length X.length)).setCell ⟨w.heap.size + 1, 0, none⟩ (.slice (some ⟨g, 0, none⟩) X.length X.length)).heap.size = w1.heap.size := by simp [World.setCell]
  refine ⟨g, T, rfl, HT.out, HC1.out.trans' hcs (fun i hi => .inr (by omega)), ?_⟩
  rw [hw]
  exact (HO.out.chg hcs (fun i h1 h2 h3 => by have := HSZ.out; omega)).more HC.out.size (Nat.le_refl _)
theorem quiet_left2 {P : Program} {f : FuncId} {args : Array Value} {w : World} {n : Nat} {v : Value}
    (h : Calls P f args (w.drewN n) fun e w' => e = .returned v ∧ ∃ m, w' = (w.drewN n).drewN m) : Calls P f args (w.drewN n) fun e w'' => e = .returned v ∧ ∃ m, w'' = w.drewN m :=
  h.mono fun _ _ ⟨he, m, hm⟩ => ⟨he, n + m, by rw [hm]; simp [World.drewN, Nat.add_assoc]⟩
set_option maxRecDepth 100000 in
set_option maxHeartbeats 1000000 in
theorem eqIntSS_t (F G : Nat → Prop) (A B : Option Addr) (c d : Nat) (X : List (List Int)) (w : World) (h : TabR F w A X) (h' : TabR G w B X) (hl : X.length ≤ 9223372036854775807) (hX : ∀ r ∈ X, r.length ≤ 9223372036854775807) :
    Calls Try.prog 93 #[.slice A X.length c, .slice B X.length d] w fun e w' => e = .returned (.bool true) ∧ ∃ m, w' = w.drewN m := by
  have hne : ((X.length : Int) != (X.length : Int)) = false := by simp
  go_enter Try.func93, Try.ntmps93
  go_wp2
  go_loopw [5] (fun i wr => ∃ k : Nat, k ≤ X.length ∧ i = .int .i64 k ∧ ∃ m, wr = w.drewN m) (fun i _ => X.length - (intOf i).toNat)
  case atStart => exact ⟨0, Nat.zero_le _, rfl, 0, rfl⟩
  case round =>
    obtain ⟨k, hk, rfl, m, hwm⟩ := hrel
    have HW := Lib.hid hwm
    have hcw : Chg NoB w wr := by rw [hwm]; exact (Chg.refl _ _).drewN _
    clear hwm
    by_cases hlt : k < X.length
    · obtain ⟨ad, B1, c1, rfl, hf, hcell, hr, hc1⟩ := (h.new hcw) k hlt
      obtain ⟨ad', B2, c2, rfl, hf', hcell', hr', hc2⟩ := (h'.new hcw) k hlt
      have hlen := hX _ (List.getElem_mem hlt)
      have hi0 : (0 : Int) ≤ (k : Int) := Int.natCast_nonneg _
      have hi1 : (k : Int) < (X.length : Int) := by omega
      have HQ : ∀ n, Hid (Calls Try.prog 117 #[.slice B1 X[k].length c1, .slice B2 X[k].length c2] (wr.drewN n) fun e w'' => e = .returned (.bool true) ∧ ∃ m', w'' = wr.drewN m') := fun n => Lib.hid (quiet_left2 (eqIntS_t _ _ B1 B2 c1 c2 X[k] _ (hr.new ((Chg.refl NoB wr).drewN n)) (hr'.new ((Chg.refl NoB wr).drewN n)) hlen))
      clear hr hr' hlen hcw
      go_wp2
      go_quiet ((go_at_call 117; exact (HQ _).out))
      go_wp2
      go_roundw
      case rel => exact ⟨k + 1, by omega, by go_num, m + nq, by rw [HW.out]; simp [World.drewN, Nat.add_assoc]⟩
      case measure => simp [intOf]; omega
    · clear hcw
      go_wp2
      go_ret
      exact ⟨rfl, m, HW.out⟩
theorem eqTable_t (F G : Nat → Prop) (A B : Option Addr) (c d : Nat) (X : List (List Int)) (w : World) (h : TabR F w A X) (h' : TabR G w B X) (hl : X.length ≤ 9223372036854775807) (hX : ∀ r ∈ X, r.length ≤ 9223372036854775807) :
    Calls Try.prog 27 #[.agg #[.slice A X.length c], .agg #[.slice B X.length d]] w fun e w' => e = .returned (.bool true) ∧ Chg NoB w w' := by
  have HC := Lib.hid (((Chg.refl NoB w).alloc (.cells #[.slice A X.length c] 31)).alloc (.cells #[.slice B X.length d] 31))
  have hA := h.lt.new HC.out
  have hB := h'.lt.new HC.out
  go_enter Try.func27, Try.ntmps27
  go_wp2_with fail
  refine (eqIntSS_t _ _ A B c d X _ hA hB hl hX).mono ?_
  rintro e' w' ⟨rfl, m, rfl⟩
  go_wp2
  go_ret
  exact ⟨rfl, HC.out.drewN _⟩

/-- A table whose numbers count on from k. -/
def marksT : List (List Int) → Int → List (List Int)
  | [], _ => []
  | r :: X, k => marksI r.length k :: marksT X (k + r.length)
def lens (X : List (List Int)) : Nat := (X.map List.length).sum
theorem marksT_length (X : List (List Int)) : ∀ k, (marksT X k).length = X.length := by
  induction X with
  | nil => intro k; rfl
  | cons r X ih => intro k; simp [marksT, ih]
theorem marksT_get (X : List (List Int)) : ∀ (k : Int) (j : Nat) (h : j < X.length), (marksT X k)[j]'(by rw [marksT_length]; exact h) = marksI X[j].length (k + (lens (X.take j) : Nat)) := by
  induction X with
  | nil => intro k j h; simp at h
  | cons r X ih =>
    intro k j h
    cases j with
    | zero => simp [marksT, lens]
    | succ j =>
      simp only [marksT, List.getElem_cons_succ]
      rw [ih (k + r.length) j (by simpa using h)]
      simp [lens, Int.add_assoc]
theorem lens_take_succ (X : List (List Int)) (k : Nat) (h : k < X.length) : lens (X.take (k + 1)) = lens (X.take k) + X[k].length := by
  unfold lens; rw [List.take_succ_eq_append_getElem h, List.map_append, List.sum_append]; simp
theorem lens_take_le (X : List (List Int)) (k : Nat) : lens (X.take k) ≤ lens X := by
  unfold lens
  have : (X.map List.length).sum = ((X.take k).map List.length).sum + ((X.drop k).map List.length).sum := by
    rw [← List.sum_append, ← List.map_append, List.take_append_drop]
  omega
theorem lens_row (X : List (List Int)) (k : Nat) (h : k < X.length) : lens (X.take k) + X[k].length ≤ lens X := by
  have := lens_take_succ X k h
  have := lens_take_le X (k + 1)
  omega

theorem rows_mark {T : List RowO} {B E k : Nat} {w w' : World} {rest' : List Value} {ys : List Int} (h : RowsO B E w T) (hk : k < T.length) (hc : Chg (fun i => T[k].g ≤ i ∧ i < T[k].g + 1) w w') (hl : ys.length = T[k].xs.length)
    (hb : Blk w' T[k].g 3 (icells ys ++ rest').toArray) : RowsO B E w' (T.set k ⟨T[k].g, T[k].c, ys, rest'⟩) := by
  have hg : (T.set k ⟨T[k].g, T[k].c, ys, rest'⟩).map (·.g) = T.map (·.g) := by
    rw [List.map_set]
    apply List.ext_getElem?
    intro j
    rw [List.getElem?_set]
    by_cases hj : k = j
    · subst hj; simp [hk]
    · simp [hj]
  refine ⟨fun r hr => ?_, by rw [hg]; exact h.2⟩
  obtain ⟨j, hj, rfl⟩ := List.getElem_of_mem hr
  have hj' : j < T.length := by simpa using hj
  rw [List.getElem_set]
  split
  · have ho := h.1 _ (List.getElem_mem hk)
    exact ⟨ho.1, ho.2.1, hb, by simp only; rw [hl]; exact ho.2.2.2⟩
  · rename_i hne
    refine (h.1 _ (List.getElem_mem hj')).chg hc fun hh => ?_
    have he : T[j].g = T[k].g := by omega
    have := h.2
    rw [List.nodup_iff_pairwise_ne, List.pairwise_iff_getElem] at this
    rcases Nat.lt_or_ge j k with h1 | h1
    · exact this j k (by simpa using hj') (by simpa using hk) h1 (by simpa using he)
    · exact this k j (by simpa using hk) (by simpa using hj') (by omega) (by simpa using he.symm)
set_option maxHeartbeats 1000000 in
theorem markIntS_row (g c : Nat) (xs : List Int) (rest : List Value) (k0 : Int) (w : World) (h : Blk w g 3 (icells xs ++ rest).toArray) (hl : xs.length ≤ 1048576) (hk0 : 0 ≤ k0) (hk1 : k0 ≤ 1000000000000) :
    Calls Try.prog 118 #[.slice (some ⟨g, 0, none⟩) xs.length c, .int .i64 k0] w fun e w' => e = .returned (.int .i64 (k0 + (xs.length : Int))) ∧ Chg (· = g) w w' ∧ Blk w' g 3 (icells (marksI xs.length k0) ++ rest).toArray := by
  go_enter Try.func118, Try.ntmps118
  go_wp2
  go_loopw [1, 5] (fun v i wr => ∃ k : Nat, k ≤ xs.length ∧ i = .int .i64 k ∧ v = .int .i64 (k0 + (k : Int)) ∧ Chg (· = g) w wr ∧ Blk wr g 3 (icells (marksI k k0) ++ (icells (xs.drop k) ++ rest)).toArray) (fun _ i _ => xs.length - (intOf i).toNat)
  case atStart => exact ⟨0, Nat.zero_le _, rfl, by simp, Chg.refl _ _, h⟩
  case round =>
    obtain ⟨k, hk, rfl, rfl, hch, hb⟩ := hrel
    have HC := Lib.hid hch
    by_cases hlt : k < xs.length
    · rw [icells_drop xs k hlt] at hb
      have hlen : (icells (marksI k k0)).length = k := by rw [icells_length, marksI_len]
      have hroom := hb.room hlen
      have hfr := hb.frozen k
      have HF := Lib.hid (hb.fill1 hlen (.int .i64 (k0 + (k : Int))))
      have HS := Lib.hid (marksI_succ k k0)
      have hk8 : (k : Int) ≤ 1048576 := by omega
      clear hb hch hlen
      go_wp2
      go_roundw
      case rel =>
        refine ⟨k + 1, by omega, by go_num, congrArg (Value.int .i64) (by omega), HC.out.setCell (p := ⟨g, k, none⟩) (.inl rfl) _, ?_⟩
        rw [HS.out, List.append_assoc]
        exact HF.out
      case measure => simp [intOf]; omega
    · have hk' : k = xs.length := by omega
      subst hk'
      have HB := Lib.hid hb
      clear hb hch
      go_wp2
      go_ret
      refine ⟨rfl, HC.out, ?_⟩
      have := HB.out
      rwa [List.drop_length] at this
theorem rows_cell {T : List RowO} {k : Nat} {ys : List Int} {rest' : List Value} (hk : k < T.length) (hl : ys.length = T[k].xs.length) : (T.set k ⟨T[k].g, T[k].c, ys, rest'⟩).map RowO.cell = T.map RowO.cell := by
  apply List.ext_getElem?
  intro j
  rw [List.map_set, List.getElem?_set]
  by_cases hj : k = j
  · subst hj; simp [hk, RowO.cell, hl]
  · simp [hj]
theorem rows_lists {T : List RowO} {k : Nat} {r : RowO} : listsOf (T.set k r) = (listsOf T).set k r.xs := by simp [listsOf, List.map_set]
theorem marks_len {T T' : List RowO} (h : T'.map RowO.cell = T.map RowO.cell) : T'.length = T.length := by have := congrArg List.length h; simpa using this
theorem mark_step (X : List (List Int)) (k0 : Int) (k : Nat) (hk : k < X.length) : ((marksT X k0).take k ++ X.drop k).set k (marksI X[k].length (k0 + (lens (X.take k) : Nat))) = (marksT X k0).take (k + 1) ++ X.drop (k + 1) := by
  have hl : ((marksT X k0).take k).length = k := by rw [List.length_take, marksT_length]; omega
  rw [List.set_append_right _ _ (by omega), hl, Nat.sub_self, List.drop_eq_getElem_cons hk, List.set_cons_zero, List.take_succ_eq_append_getElem (by rw [marksT_length]; exact hk), marksT_get X k0 k hk, List.append_assoc]
  rfl
theorem mark_get (X : List (List Int)) (k0 : Int) (k : Nat) (hk : k < X.length) (h : k < ((marksT X k0).take k ++ X.drop k).length) : ((marksT X k0).take k ++ X.drop k)[k] = X[k] := by
  have hl : ((marksT X k0).take k).length = k := by rw [List.length_take, marksT_length]; omega
  rw [List.getElem_append_right (by omega)]
  simp [hl]

set_option maxRecDepth 100000 in
set_option maxHeartbeats 1000000 in
theorem markIntSS_any (B E : Nat) (A : Option Addr) (c : Nat) (T : List RowO) (k0 : Int) (w : World) (h : TabO B E w A c T) (hX : total (listsOf T) ≤ 1048576) (hk0 : 0 ≤ k0) (hk1 : k0 ≤ 100000000) :
    Calls Try.prog 95 #[.slice A T.length c, .int .i64 k0] w fun e w' => ∃ T', e = .returned (.int .i64 (k0 + (lens (listsOf T) : Nat))) ∧ Chg (fun i => B ≤ i ∧ i < E) w w' ∧ listsOf T' = marksT (listsOf T) k0 ∧ T'.length = T.length ∧ TabO B E w' A c T' := by
  obtain ⟨X, hX0⟩ : ∃ X, listsOf T = X := ⟨_, rfl⟩
  have hTX : T.length = X.length := by rw [← hX0, listsOf_length]
  rw [hX0] at hX ⊢
  have hXl : X.length ≤ 1048576 := by unfold total at hX; omega
  rw [hTX]
  have HH := Lib.hid h
  have HX0 := Lib.hid hX0
  have HTX := Lib.hid hTX
  clear h hX0 hTX
  go_enter Try.func95, Try.ntmps95
  go_wp2
  go_loopw [1, 5] (fun v i wr => ∃ (k : Nat) (T' : List RowO), k ≤ X.length ∧ i = .int .i64 k ∧ v = .int .i64 (k0 + (lens (X.take k) : Nat)) ∧ Chg (fun i => B ≤ i ∧ i < E) w wr ∧ Hid (listsOf T' = (marksT X k0).take k ++ X.drop k) ∧ Hid (T'.map RowO.cell = T.map RowO.cell) ∧ TabO B E wr A c T') (fun _ i _ => X.length - (intOf i).toNat)
  case atStart => exact ⟨0, T, Nat.zero_le _, rfl, by simp [lens], Chg.refl _ _, Lib.hid (by simp [HX0.out]), Lib.hid rfl, HH.out⟩
  case round =>
    obtain ⟨k, T', hk, rfl, rfl, hch, hl, hcell, hO⟩ := hrel
    have HC := Lib.hid hch
    have HO := Lib.hid hO
    by_cases hlt : k < X.length
    · have hTk : k < T'.length := by rw [marks_len hcell.out, HTX.out]; exact hlt
      obtain ⟨ad, e1, hf, hbl, hc0⟩ := hO.1.rd.at_ (k := k) (by simpa using hTk)
      subst e1
      rw [List.getElem_map] at hc0
      have hxs : T'[k].xs = X[k] := by
        have h1 : (listsOf T')[k]'(by rw [listsOf_length]; exact hTk) = T'[k].xs := by simp [listsOf]
        rw [← h1]
        have h2 := mark_get X k0 k hlt (by rw [← hl.out, listsOf_length]; exact hTk)
        simp only [hl.out]
        exact h2
      unfold RowO.cell at hc0
      rw [hxs] at hc0
      have hok := hO.2.1 T'[k] (List.getElem_mem hTk)
      have hrowlen : X[k].length ≤ 1048576 := by have := total_row X k hlt; omega
      have hlk := Lib.hid (lens_take_succ X k hlt)
      have hrl := lens_row X k hlt
      have htl : lens X ≤ 1048576 := by unfold total at hX; unfold lens; omega
      have hi0 : (0 : Int) ≤ (k : Int) := Int.natCast_nonneg _
      have hi1 : (k : Int) < (X.length : Int) := by omega
      have HOK := Lib.hid hok
      have HXS := Lib.hid hxs
      clear hO hch hok
      go_wp2_with fail
      have hbk := HOK.out.2.2.1
      rw [HXS.out] at hbk
      refine (markIntS_row T'[k].g T'[k].c X[k] T'[k].rest _ _ hbk hrowlen (by omega) (by omega)).mono ?_
      rintro e w1 ⟨rfl, hc1, hb1⟩
      have hml : (marksI X[k].length (k0 + (lens (X.take k) : Nat))).length = T'[k].xs.length := by rw [marksI_len, HXS.out]
      have hrows := rows_mark (ys := marksI X[k].length (k0 + (lens (X.take k) : Nat))) HO.out.2 hTk (hc1.mono (G := fun i => T'[k].g ≤ i ∧ i < T'[k].g + 1) (fun i _ hi => by omega)) hml hb1
      have hcb : Chg (fun i => B ≤ i ∧ i < E) wr w1 := hc1.mono fun i _ hi => by rw [hi]; exact ⟨HOK.out.1, HOK.out.2.1⟩
      have hcell2 := rows_cell (rest' := T'[k].rest) hTk hml
      have hhd : OwnS B E w1 24 (some ad) T'.length c (T'.map RowO.cell) := by
        refine ⟨HO.out.1.1, ?_⟩
        rcases HO.out.1.2 with h0 | ⟨g, rest, hA, hg, hE, hb⟩
        · exact .inl h0
        · exact .inr ⟨g, rest, hA, hg, hE, hb.chg hc1 (fun he => ty_ne (Blk.ty hbk (by rw [← he]; exact hb)))⟩
      have HN := Lib.hid (show TabO B E w1 (some ad) c (T'.set k ⟨T'[k].g, T'[k].c, marksI X[k].length (k0 + (lens (X.take k) : Nat)), T'[k].rest⟩) from ⟨by rw [List.length_set, hcell2]; exact hhd, hrows⟩)
      have HL2 := Lib.hid (show listsOf (T'.set k ⟨T'[k].g, T'[k].c, marksI X[k].length (k0 + (lens (X.take k) : Nat)), T'[k].rest⟩) = (marksT X k0).take (k + 1) ++ X.drop (k + 1) by rw [rows_lists, hl.out]; exact mark_step X k0 k hlt)
      have HC2 := Lib.hid (hcell2.trans hcell.out)
      have HCB := Lib.hid (HC.out.trans hcb)
      clear hrows hcb hcell2 hhd hc1 hb1 hml hbk hc0
      go_wp2
      go_roundw
      case rel => exact ⟨k + 1, _, by omega, by go_num, by rw [hlk.out]; exact congrArg (Value.int .i64) (by omega), HCB.out, HL2, HC2, HN.out⟩
      case measure => simp [intOf]; omega
    · have hk' : k = X.length := by omega
      subst hk'
      clear hO hch
      go_wp2
      go_ret
      have e1 : listsOf T' = marksT X k0 := by have := hl.out; rwa [List.drop_length, List.append_nil, List.take_of_length_le (by rw [marksT_length]; exact Nat.le_refl _)] at this
      refine ⟨T', ret_int (by rw [List.take_length]), HC.out, e1, ?_, HO.out⟩
      rw [marks_len hcell.out, HTX.out]
set_option maxRecDepth 100000 in
set_option maxHeartbeats 1000000 in
theorem heldIntSS_any (F : Nat → Prop) (A : Option Addr) (c : Nat) (X : List (List Int)) (k0 : Int) (w : World) (h : TabR F w A (marksT X k0)) (hX : total X ≤ 1048576) (hk0 : 0 ≤ k0) (hk1 : k0 ≤ 100000000) :
    Calls Try.prog 97 #[.slice A X.length c, .int .i64 k0] w fun e w' => e = .returned (.int .i64 (k0 + (lens X : Nat))) ∧ w = w' := by
  have hXl : X.length ≤ 1048576 := by unfold total at hX; omega
  have htl : lens X ≤ 1048576 := by unfold total at hX; unfold lens; omega
  go_enter Try.func97, Try.ntmps97
  go_wp2
  go_loop [1, 5] (fun v i => ∃ k : Nat, k ≤ X.length ∧ i = .int .i64 k ∧ v = .int .i64 (k0 + (lens (X.take k) : Nat))) (fun _ i => X.length - (intOf i).toNat)
  case atStart => exact ⟨0, Nat.zero_le _, rfl, by simp [lens]⟩
  case round =>
    obtain ⟨k, hk, rfl, rfl⟩ := hrel
    by_cases hlt : k < X.length
    · obtain ⟨ad, B, c1, rfl, hf, hcell, hr, hc1⟩ := h k (by rw [marksT_length]; exact hlt)
      rw [marksT_get X k0 k hlt] at hcell hr
      rw [marksI_len] at hcell
      have hrowlen : X[k].length ≤ 1048576 := by have := total_row X k hlt; omega
      have hlk := Lib.hid (lens_take_succ X k hlt)
      have hrl := lens_row X k hlt
      have HR := Lib.hid hr
      clear hr hc1
      go_wp2_with fail
      refine (heldIntS_any _ B c1 X[k].length _ _ HR.out hrowlen (by omega) (by omega)).mono ?_
      rintro e w' ⟨rfl, rfl⟩
      have hnn : ¬ (k0 + ((lens (X.take k) : Nat) : Int) + (X[k].length : Int) < 0) := by omega
      go_wp2
      go_round
      case rel => exact ⟨k + 1, by omega, by go_num, by rw [hlk.out]; exact congrArg (Value.int .i64) (by omega)⟩
      case measure => simp [intOf]; omega
    · have hk' : k = X.length := by omega
      subst hk'
      go_wp2
      go_ret
      exact ⟨rfl, rfl⟩
theorem markTable_any (B E : Nat) (A : Option Addr) (c : Nat) (T : List RowO) (k0 : Int) (w : World) (h : TabO B E w A c T) (hX : total (listsOf T) ≤ 1048576) (hk0 : 0 ≤ k0) (hk1 : k0 ≤ 100000000) :
    Calls Try.prog 30 #[.agg #[.slice A T.length c], .int .i64 k0] w fun e w' => ∃ T', e = .returned (.int .i64 (k0 + (lens (listsOf T) : Nat))) ∧ Chg (fun i => B ≤ i ∧ i < E) w w' ∧ listsOf T' = marksT (listsOf T) k0 ∧ T'.length = T.length ∧ TabO B E w' A c T' := by
  have HC := Lib.hid ((Chg.refl NoB w).alloc (.cells #[.slice A T.length c] 31))
  have h1 := h.new HC.out
  clear h
  go_enter Try.func30, Try.ntmps30
  go_wp2_with fail
  refine (markIntSS_any B E A c T k0 _ h1 hX hk0 hk1).mono ?_
  rintro e w1 ⟨T', rfl, hc1, hl, hlen, hO⟩
  go_wp2
  go_ret
  exact ⟨T', rfl, (HC.out.mono (fun _ _ x => x.elim)).trans hc1, hl, hlen, hO⟩
theorem heldTable_any (F : Nat → Prop) (A : Option Addr) (c : Nat) (X : List (List Int)) (k0 : Int) (w : World) (h : TabR F w A (marksT X k0)) (hX : total X ≤ 1048576) (hk0 : 0 ≤ k0) (hk1 : k0 ≤ 100000000) :
    Calls Try.prog 32 #[.agg #[.slice A X.length c], .int .i64 k0] w fun e w' => e = .returned (.int .i64 (k0 + (lens X : Nat))) ∧ Chg NoB w w' := by
  have HC := Lib.hid ((Chg.refl NoB w).alloc (.cells #[.slice A X.length c] 31))
  have h1 := h.lt.new HC.out
  go_enter Try.func32, Try.ntmps32
  go_wp2_with fail
  refine (heldIntSS_any _ A c X k0 _ h1 hX hk0 hk1).mono ?_
  rintro e w' ⟨rfl, rfl⟩
  have hnn : ¬ (k0 + ((lens X : Nat) : Int) < 0) := by omega
  go_wp2
  go_ret
  exact ⟨rfl, HC.out⟩
end Go.Proofs.Ytpiojofmflfkkaa
/- New tables and copies of tables. -/
namespace Go.Proofs.Ytpiojofmflfkkaa
open Go.RowKit
theorem info_ints' : (Try.prog.info? 24).map (fun i => (i.zero, i.size, i.bytes)) = some (some (.slice none 0 0), 1, 24) := by kernel_rfl
def emptyRows (f : Nat) : List (List Int) := List.replicate f (List.replicate 6 (-1))
theorem cells_snoc' (T : List RowO) (r : RowO) : (T ++ [r]).map RowO.cell = T.map RowO.cell ++ [r.cell] := by simp
theorem lists_snoc (T : List RowO) (r : RowO) : listsOf (T ++ [r]) = listsOf T ++ [r.xs] := by simp [listsOf]
theorem icells_snoc' (ys : List Int) (y : Int) : icells (ys ++ [y]) = icells ys ++ [Value.int .i64 y] := by simp [icells]
set_option maxRecDepth 100000 in
set_option maxHeartbeats 4000000 in
theorem emptyTable_any (w : World) :
    Calls Try.prog 71 #[] w fun e w' => ∃ g T, e = .returned (.agg #[.slice (some ⟨g, 0, none⟩) 8 8]) ∧ listsOf T = emptyRows 8 ∧ Chg NoB w w' ∧ TabO w.heap.size w'.heap.size w' (some ⟨g, 0, none⟩) 8 T := by
  obtain ⟨i0, hi, hz0, hz1, hz2⟩ := info_parts info_ints'
  obtain ⟨j0, hj, hy0, hy1, hy2⟩ := info_parts info_int
  have hmk : ∀ W, (Instr.makeSlice 29 (.int .i64 8) (.int .i64 8)).run Try.prog W = .ok (.slice (some ⟨W.heap.size, 0, none⟩) 8 8) (W.alloc (.cells (reps 8 [.slice none 0 0]).toArray 24)) :=
    fun W => run_make_reps (P := Try.prog) 29 24 i0 (.slice none 0 0) [.slice none 0 0] Try.underlying29 hi hz0 rfl hz1 8 (by rw [hz2]; omega) (by omega) W
  have hmk6 : ∀ W, (Instr.makeSlice 24 (.int .i64 6) (.int .i64 6)).run Try.prog W = .ok (.slice (some ⟨W.heap.size, 0, none⟩) 6 6) (W.alloc (.cells (reps 6 [.int .i64 0]).toArray 3)) :=
    fun W => run_make_reps (P := Try.prog) 24 3 j0 (.int .i64 0) [.int .i64 0] Try.underlying24 hj hy0 rfl hy1 6 (by rw [hy2]; omega) (by omega) W
  obtain ⟨q1, q2, q3⟩ := lit2 (w.alloc (.cells #[.slice none 0 0] 31)) 24 31 (reps 8 [.slice none 0 0]).toArray #[.slice (some ⟨w.heap.size + 1, 0, none⟩) 8 8]
  rw [World.size_alloc] at q1 q2
  have Q0 := Lib.hid ((Blk.new w 31 #[.slice none 0 0]).chg q3 (fun x => x))
  have Q1 := Lib.hid q1
  have Q2 := Lib.hid q2
  have Q3 := Lib.hid (((Chg.refl NoB w).alloc (.cells #[.slice none 0 0] 31)).trans q3)
  clear q1 q2 q3
  go_enter Try.func71, Try.ntmps71
  go_wp2
  go_loopw [9] (fun i wr => ∃ (f : Nat) (T : List RowO), f ≤ 8 ∧ i = .int .i64 f ∧ Chg NoB w wr ∧ Blk wr w.heap.size 31 #[.slice none 0 0] ∧ Blk wr (w.heap.size + 1 + 1) 31 #[.slice (some ⟨w.heap.size + 1, 0, none⟩) 8 8] ∧ Hid (listsOf T = emptyRows f) ∧ RowsO (w.heap.size + 1 + 1 + 1) wr.heap.size wr T ∧ Blk wr (w.heap.size + 1) 24 (T.map RowO.cell ++ reps (8 - f) [.slice none 0 0]).toArray) (fun i _ => 8 - (intOf i).toNat)
  case atStart => exact ⟨0, [], Nat.zero_le _, rfl, Q3.out, Q0.out, Q2.out, Lib.hid rfl, RowsO.nil _ _ _, Q1.out⟩
  case round =>
    obtain ⟨wo, rfl⟩ : ∃ wo, wo = wr := ⟨_, rfl⟩
    obtain ⟨f, T, hf8, rfl, hch, hbr, hbv, hT, hrows, hb⟩ := hrel
    have hTl : T.length = f := by have := congrArg List.length hT.out; rw [listsOf_length, emptyRows, List.length_replicate] at this; exact this
    have v0 : wo.cell? ⟨w.heap.size + 1 + 1, 0, none⟩ = some (.slice (some ⟨w.heap.size + 1, 0, none⟩) 8 8) := (hbv.cell _).trans rfl
    have HC := Lib.hid hch
    have HBR := Lib.hid hbr
    have HBV := Lib.hid hbv
    have HRW := Lib.hid hrows
    by_cases hlt : f < 8
    · obtain ⟨r, hr⟩ : ∃ r, 8 - f = r + 1 := ⟨8 - f - 1, by omega⟩
      rw [hr, reps_succ] at hb
      have hlenT : (T.map RowO.cell).length = f := by rw [List.length_map, hTl]
      have hroom := hb.room hlenT
      have hfr := hb.frozen f
      have HB := Lib.hid hb
      have HR := Lib.hid hr
      have hi0 : (0 : Int) ≤ (f : Int) := Int.natCast_nonneg _
      have hi1 : (f : Int) < 8 := by omega
      have hGl := hb.lt
      have HGL := Lib.hid hGl
      clear hch hbr hbv hrows hb hr
      have hca := (Chg.refl NoB wo).alloc (.cells (reps 6 [.int .i64 0]).toArray 3)
      have v0a := hca.cell v0 (fun x => x)
      have hrooma := hca.cell hroom (fun x => x)
      have hfra := (HB.out.chg hca (fun x => x)).frozen f
      have hbn := Lib.hid (Blk.new wo 3 (reps 6 [.int .i64 0]).toArray)
      have HCA := Lib.hid hca
      clear hca
      go_wp2
      go_region
      obtain ⟨w5, hw5⟩ : ∃ w5, ((wo.setCell ⟨w.heap.size + 1, f, none⟩ (.slice (some ⟨wo.heap.size, 0, none⟩) 6 6)).alloc (.cells (reps 6 [.int .i64 0]).toArray 3)).drew = w5 := ⟨_, rfl⟩
      rw [hw5]
      have hss : (wo.setCell ⟨w.heap.size + 1, f, none⟩ (.slice (some ⟨wo.heap.size, 0, none⟩) 6 6)).heap.size = wo.heap.size := by simp [World.setCell]
      have hc5 : Chg (· = w.heap.size + 1) wo w5 := by rw [← hw5]; exact (((Chg.refl (· = w.heap.size + 1) wo).setCell (p := ⟨w.heap.size + 1, f, none⟩) (.inl rfl) _).alloc _).drew
      have hb5 : Blk w5 (w.heap.size + 1) 24 (T.map RowO.cell ++ Value.slice (some ⟨wo.heap.size, 0, none⟩) 6 6 :: ([].append (reps r [.slice none 0 0]))).toArray := by
        rw [← hw5]
        exact ((HB.out.fill1 hlenT (.slice (some ⟨wo.heap.size, 0, none⟩) 6 6)).chg ((Chg.refl NoB _).alloc _) (fun x => x)).chg ((Chg.refl NoB _).drew) (fun x => x)
      have hn5 : Blk w5 wo.heap.size 3 (reps 6 [.int .i64 0]).toArray := by
        have h1 := Blk.new (wo.setCell ⟨w.heap.size + 1, f, none⟩ (.slice (some ⟨wo.heap.size, 0, none⟩) 6 6)) 3 (reps 6 [.int .i64 0]).toArray
        rw [hss] at h1
        rw [← hw5]
        exact h1.chg (F := NoB) ((Chg.refl NoB _).drew) (fun x => x)
      have hsz5 : w5.heap.size = wo.heap.size + 1 := by rw [← hw5]; simp [World.drew, World.setCell]
      clear hw5 hss
      have v5 := hc5.cell v0 (by simp)
      have hhd : w5.cell? ⟨w.heap.size + 1, f, none⟩ = some (.slice (some ⟨wo.heap.size, 0, none⟩) 6 6) := hb5.room hlenT
      have HC5 := Lib.hid (HC.out.trans' hc5 (fun i hi => .inr (by omega)))
      have HD5 := Lib.hid hc5
      have HB5 := Lib.hid hb5
      have HN5 := Lib.hid hn5
      have HS5 := Lib.hid hsz5
      have HBR5 := Lib.hid (HBR.out.chg hc5 (by omega))
      have HBV5 := Lib.hid (HBV.out.chg hc5 (by omega))
      clear hc5 hb5 hn5 hsz5 v0a hrooma hfra v0 hroom hfr
      go_wp2
      go_loopw [23] (fun i w6 => ∃ k : Nat, k ≤ 6 ∧ i = .int .i64 k ∧ Chg (· = wo.heap.size) w5 w6 ∧ Blk w6 wo.heap.size 3 (icells (List.replicate k (-1)) ++ reps (6 - k) [.int .i64 0]).toArray) (fun i _ => 6 - (intOf i).toNat)
      case atStart => exact ⟨0, Nat.zero_le _, rfl, Chg.refl _ _, HN5.out⟩
      case round =>
        obtain ⟨k, hk6, rfl, hch, hb⟩ := hrel
        have y0 := hch.cell v5 (by simp; have := HBV.out.lt; omega)
        have y1 := hch.cell hhd (by simp; have := HGL.out; omega)
        have HCH := Lib.hid hch
        by_cases hk : k < 6
        · obtain ⟨r', hr'⟩ : ∃ r', 6 - k = r' + 1 := ⟨6 - k - 1, by omega⟩
          rw [hr', reps_succ] at hb
          have hlk : (icells (List.replicate k (-1))).length = k := by rw [icells_length, List.length_replicate]
          have hroom := hb.room hlk
          have hfr := hb.frozen k
          have HF := Lib.hid (hb.fill1 hlk (.int .i64 (-1)))
          have HR' := Lib.hid hr'
          have hk0 : (0 : Int) ≤ (k : Int) := Int.natCast_nonneg _
          clear hb hch hr' hlk
          go_wp2
          go_roundw
          case rel =>
            refine ⟨k + 1, by omega, by go_num, HCH.out.setCell (.inl rfl) _, ?_⟩
            have e1 : icells (List.replicate (k + 1) (-1)) = icells (List.replicate k (-1)) ++ [.int .i64 (-1)] := by rw [List.replicate_succ', ← icells_snoc']
            rw [e1, List.append_assoc, show 6 - (k + 1) = r' by have := HR'.out; omega]
            exact HF.out
          case measure => simp [intOf]; omega
        · obtain rfl : k = 6 := by omega
          have HB6 := Lib.hid hb
          clear hb hch
          go_wp2
          go_roundw
          case rel =>
            have hb6 := HB6.out
            rw [Nat.sub_self, reps_zero] at hb6
            have hok : RowO.ok (w.heap.size + 1 + 1 + 1) wo.heap.size.succ _ ⟨wo.heap.size, 6, List.replicate 6 (-1), []⟩ := ⟨by show w.heap.size + 1 + 1 + 1 ≤ wo.heap.size; have := HBV.out.lt; omega, Nat.lt_succ_self _, hb6, by simp⟩
            have hsz6 := HCH.out.size
            refine ⟨f + 1, T ++ [⟨wo.heap.size, 6, List.replicate 6 (-1), []⟩], by omega, by go_num, HC5.out.own HCH.out HC.out.size, HBR5.out.chg HCH.out (by have := HBR.out.lt; omega), HBV5.out.chg HCH.out (by have := HBV.out.lt; omega), Lib.hid ?_, ?_, ?_⟩
            · rw [lists_snoc, hT.out]
              unfold emptyRows
              rw [← List.replicate_succ']
            · have h1 := (((HRW.out.chg HD5.out (fun i h1 h2 => by omega)).chg HCH.out (fun i h1 h2 => by omega)).snoc hok (Nat.le_refl _))
              exact h1.more (Nat.le_refl _) (by have := HS5.out; omega)
            · rw [cells_snoc', List.append_assoc, show 8 - (f + 1) = r by have := HR.out; omega]
              exact HB5.out.chg HCH.out (by omega)
          case measure => simp [intOf]; omega
    · obtain rfl : f = 8 := by omega
      have hr0 : wo.cell? ⟨w.heap.size, 0, none⟩ = some (.slice none 0 0) := (hbr.cell _).trans rfl
      have hrf := hbr.frozen 0
      rw [Nat.sub_self, reps_zero, List.append_nil] at hb
      have HB := Lib.hid hb
      have hlt1 := hbv.lt
      clear hch hbr hbv hrows hb
      go_wp2_with fail
      (try simp only [Exit.inBlock, Exit.then])
      refine bodyPost_ret (v := .agg #[.slice (some ⟨w.heap.size + 1, 0, none⟩) 8 8]) (by simp [results, Try.results71, go_sem, *]) rfl ?_
      have hcs : Chg (· = w.heap.size) wo (wo.setCell ⟨w.heap.size, 0, none⟩ (.slice (some ⟨w.heap.size + 1, 0, none⟩) 8 8)) := (Chg.refl (· = w.heap.size) wo).setCell (p := ⟨w.heap.size, 0, none⟩) (.inl rfl) _
      have hss : (wo.setCell ⟨w.heap.size, 0, none⟩ (.slice (some ⟨w.heap.size + 1, 0, none⟩) 8 8)).heap.size = wo.heap.size := by simp [World.setCell]
      refine ⟨w.heap.size + 1, T, rfl, hT.out, HC.out.own hcs (Nat.le_refl _), ?_, ?_⟩
      · rw [hTl, hss]
        exact OwnS.of_blk (HB.out.chg hcs (by omega)) (by omega) (by omega) (Nat.le_refl _)
      · rw [hss]
        exact (HRW.out.chg hcs (fun i h1 h2 h3 => by omega)).more (by omega) (Nat.le_refl _)
set_option maxRecDepth 100000 in
set_option maxHeartbeats 4000000 in
theorem cloneTable_any (F : Nat → Prop) (A : Option Addr) (c : Nat) (X : List (List Int)) (w : World) (h : TabR F w A X) (hX : tabOk X) :
    Calls Try.prog 88 #[.agg #[.slice A X.length c]] w fun e w' => ∃ g T, e = .returned (.agg #[.slice (some ⟨g, 0, none⟩) 8 8]) ∧ listsOf T = X ∧ Chg NoB w w' ∧ TabO w.heap.size w'.heap.size w' (some ⟨g, 0, none⟩) 8 T := by
  obtain ⟨i0, hi, hz0, hz1, hz2⟩ := info_parts info_ints'
  obtain ⟨j0, hj, hy0, hy1, hy2⟩ := info_parts info_int
  have hmk : ∀ W, (Instr.makeSlice 29 (.int .i64 8) (.int .i64 8)).run Try.prog W = .ok (.slice (some ⟨W.heap.size, 0, none⟩) 8 8) (W.alloc (.cells (reps 8 [.slice none 0 0]).toArray 24)) :=
    fun W => run_make_reps (P := Try.prog) 29 24 i0 (.slice none 0 0) [.slice none 0 0] Try.underlying29 hi hz0 rfl hz1 8 (by rw [hz2]; omega) (by omega) W
  have hmk6 : ∀ W, (Instr.makeSlice 24 (.int .i64 6) (.int .i64 6)).run Try.prog W = .ok (.slice (some ⟨W.heap.size, 0, none⟩) 6 6) (W.alloc (.cells (reps 6 [.int .i64 0]).toArray 3)) :=
    fun W => run_make_reps (P := Try.prog) 24 3 j0 (.int .i64 0) [.int .i64 0] Try.underlying24 hj hy0 rfl hy1 6 (by rw [hy2]; omega) (by omega) W
  have hsz1 : (Try.prog.info? 3).map (·.size) = some 1 := by rw [hj]; simp [hy1]
  have h8 := hX.1
  obtain ⟨p1, p2, p3⟩ := lit2 w 31 31 #[.slice A X.length c] #[.slice none 0 0]
  obtain ⟨q1, q2, q3⟩ := lit2 ((w.alloc (.cells #[.slice A X.length c] 31)).alloc (.cells #[.slice none 0 0] 31)) 24 31 (reps 8 [.slice none 0 0]).toArray #[.slice (some ⟨w.heap.size + 1 + 1, 0, none⟩) 8 8]
  rw [World.size_alloc, World.size_alloc] at q1 q2
  have Q0 := Lib.hid (p2.chg q3 (fun x => x))
  have QA := Lib.hid (p1.chg q3 (fun x => x))
  have Q1 := Lib.hid q1
  have Q2 := Lib.hid q2
  have Q3 := Lib.hid (p3.trans q3)
  rw [h8] at QA Q0 Q1 Q2 Q3
  clear p1 p2 p3 q1 q2 q3
  have HX := Lib.hid hX
  clear hX
  rw [h8]
  go_enter Try.func88, Try.ntmps88
  go_wp2
  go_loopw [14] (fun i wr => ∃ (f : Nat) (T : List RowO), f ≤ 8 ∧ i = .int .i64 f ∧ Chg NoB w wr ∧ Blk wr (w.heap.size + 1) 31 #[.slice none 0 0] ∧ Blk wr (w.heap.size + 1 + 1 + 1) 31 #[.slice (some ⟨w.heap.size + 1 + 1, 0, none⟩) 8 8] ∧ Hid (listsOf T = X.take f) ∧ RowsO (w.heap.size + 1 + 1 + 1 + 1) wr.heap.size wr T ∧ Blk wr (w.heap.size + 1 + 1) 24 (T.map RowO.cell ++ reps (8 - f) [.slice none 0 0]).toArray) (fun i _ => 8 - (intOf i).toNat)
  case atStart => exact ⟨0, [], Nat.zero_le _, rfl, Q3.out, Q0.out, Q2.out, Lib.hid rfl, RowsO.nil _ _ _, Q1.out⟩
  case round =>
    obtain ⟨wo, rfl⟩ : ∃ wo, wo = wr := ⟨_, rfl⟩
    obtain ⟨f, T, hf8, rfl, hch, hbr, hbv, hT, hrows, hb⟩ := hrel
    have hTl : f ≤ 8 → T.length = f := fun _ => by have := congrArg List.length hT.out; rw [listsOf_length, List.length_take, h8] at this; omega
    have hTl := hTl hf8
    have v0 : wo.cell? ⟨w.heap.size + 1 + 1 + 1, 0, none⟩ = some (.slice (some ⟨w.heap.size + 1 + 1, 0, none⟩) 8 8) := (hbv.cell _).trans rfl
    have HC := Lib.hid hch
    have HBR := Lib.hid hbr
    have HBV := Lib.hid hbv
    have HRW := Lib.hid hrows
    by_cases hlt : f < 8
    · obtain ⟨ad, B, c', rfl, hfF, hcell, hrr, hc1⟩ := (h.lt.new hch) f (by omega)
      have h6 : X[f].length = 6 := (HX.out.2 f (by omega)).1
      have HTF := Lib.hid (show X.take (f + 1) = X.take f ++ [X[f]] from List.take_succ_eq_append_getElem (by omega))
      have hcl := Lib.hid (show (icells X[f]).length = 6 by rw [icells_length, h6])
      have hone := Lib.hid (show ∀ u ∈ icells X[f], u.oneCell' = true from fun u hu => by obtain ⟨x, _, rfl⟩ := List.mem_map.1 hu; rfl)
      have H6 := Lib.hid h6
      have HRR := Lib.hid hrr
      rw [h6] at hcell
      obtain ⟨r, hr⟩ : ∃ r, 8 - f = r + 1 := ⟨8 - f - 1, by omega⟩
      rw [hr, reps_succ] at hb
      have hlenT : (T.map RowO.cell).length = f := by rw [List.length_map, hTl]
      have hroom := hb.room hlenT
      have hfr := hb.frozen f
      have HB := Lib.hid hb
      have HR := Lib.hid hr
      have hi0 : (0 : Int) ≤ (f : Int) := Int.natCast_nonneg _
      have hi1 : (f : Int) < 8 := by omega
      have hGl := hb.lt
      have HGL := Lib.hid hGl
      clear hch hbr hbv hrows hb hr hrr h6
      have hca := (Chg.refl NoB wo).alloc (.cells (reps 6 [.int .i64 0]).toArray 3)
      have v0a := hca.cell v0 (fun x => x)
      have hrooma := hca.cell hroom (fun x => x)
      have hfra := (HB.out.chg hca (fun x => x)).frozen f
      clear hca
      go_wp2
      go_region
      obtain ⟨w5, hw5⟩ : ∃ w5, ((wo.setCell ⟨w.heap.size + 1 + 1, f, none⟩ (.slice (some ⟨wo.heap.size, 0, none⟩) 6 6)).alloc (.cells (reps 6 [.int .i64 0]).toArray 3)).drew = w5 := ⟨_, rfl⟩
      rw [hw5]
      have hss : (wo.setCell ⟨w.heap.size + 1 + 1, f, none⟩ (.slice (some ⟨wo.heap.size, 0, none⟩) 6 6)).heap.size = wo.heap.size := by simp [World.setCell]
      have hc5 : Chg (· = w.heap.size + 1 + 1) wo w5 := by rw [← hw5]; exact (((Chg.refl (· = w.heap.size + 1 + 1) wo).setCell (p := ⟨w.heap.size + 1 + 1, f, none⟩) (.inl rfl) _).alloc _).drew
      have hb5 : Blk w5 (w.heap.size + 1 + 1) 24 (T.map RowO.cell ++ Value.slice (some ⟨wo.heap.size, 0, none⟩) 6 6 :: ([].append (reps r [.slice none 0 0]))).toArray := by
        rw [← hw5]
        exact ((HB.out.fill1 hlenT (.slice (some ⟨wo.heap.size, 0, none⟩) 6 6)).chg ((Chg.refl NoB _).alloc _) (fun x => x)).chg ((Chg.refl NoB _).drew) (fun x => x)
      have hn5 : Blk w5 wo.heap.size 3 (reps 6 [.int .i64 0]).toArray := by
        have h1 := Blk.new (wo.setCell ⟨w.heap.size + 1 + 1, f, none⟩ (.slice (some ⟨wo.heap.size, 0, none⟩) 6 6)) 3 (reps 6 [.int .i64 0]).toArray
        rw [hss] at h1
        rw [← hw5]
        exact h1.chg (F := NoB) ((Chg.refl NoB _).drew) (fun x => x)
      have hsz5 : w5.heap.size = wo.heap.size + 1 := by rw [← hw5]; simp [World.drew, World.setCell]
      clear hw5 hss
      have v5 := hc5.cell v0 (by simp)
      have hhd : w5.cell? ⟨w.heap.size + 1 + 1, f, none⟩ = some (.slice (some ⟨wo.heap.size, 0, none⟩) 6 6) := hb5.room hlenT
      have HC5 := Lib.hid (HC.out.trans' hc5 (fun i hi => .inr (by omega)))
      have HD5 := Lib.hid hc5
      have HB5 := Lib.hid hb5
      have HN5 := Lib.hid hn5
      have HS5 := Lib.hid hsz5
      have HRR5 := Lib.hid (HRR.out.chg hc5 (fun i hi he => by have := hi.2; omega))
      have HBR5 := Lib.hid (HBR.out.chg hc5 (by omega))
      have HBV5 := Lib.hid (HBV.out.chg hc5 (by omega))
      clear hc5 hb5 hn5 hsz5 v0a hrooma hfra v0 hroom hfr
      obtain ⟨w6, hr6, hc6, hb6⟩ := run_copy_blk (P := Try.prog) 24 24 3 3 wo.heap.size 6 6 B 6 c' (reps 6 [.int .i64 0]) 3 (icells X[f]) Try.underlying24 hsz1 HN5.out (by rw [hcl.out]; rfl) (by rw [hcl.out]; decide) HRR5.out (by rw [hcl.out, reps_length]; decide) hone.out
      have HC6 := Lib.hid hc6
      have HB6 := Lib.hid hb6
      clear hc6 hb6
      go_wp2
      go_roundw
      case rel =>
        have hb6 := HB6.out
        rw [List.drop_of_length_le (by rw [hcl.out, reps_length]; decide)] at hb6
        have hok : RowO.ok (w.heap.size + 1 + 1 + 1 + 1) wo.heap.size.succ _ ⟨wo.heap.size, 6, X[f], []⟩ := ⟨by show w.heap.size + 1 + 1 + 1 + 1 ≤ wo.heap.size; have := HBV.out.lt; omega, Nat.lt_succ_self _, hb6, by simp [H6.out]⟩
        have hsz6 := HC6.out.size
        refine ⟨f + 1, T ++ [⟨wo.heap.size, 6, X[f], []⟩], by omega, by go_num, HC5.out.own HC6.out HC.out.size, HBR5.out.chg HC6.out (by have := HBR.out.lt; omega), HBV5.out.chg HC6.out (by have := HBV.out.lt; omega), Lib.hid ?_, ?_, ?_⟩
        · rw [lists_snoc, hT.out, HTF.out]
        · have h1 := (((HRW.out.chg HD5.out (fun i h1 h2 => by omega)).chg HC6.out (fun i h1 h2 => by omega)).snoc hok (Nat.le_refl _))
          exact h1.more (Nat.le_refl _) (by have := HS5.out; omega)
        · rw [cells_snoc', List.append_assoc, show 8 - (f + 1) = r by have := HR.out; omega]
          have e1 : RowO.cell ⟨wo.heap.size, 6, X[f], []⟩ = .slice (some ⟨wo.heap.size, 0, none⟩) 6 6 := by simp [RowO.cell, H6.out]
          rw [e1]
          exact HB5.out.chg HC6.out (by omega)
      case measure => simp [intOf]; omega
    · obtain rfl : f = 8 := by omega
      have hr0 : wo.cell? ⟨w.heap.size + 1, 0, none⟩ = some (.slice none 0 0) := (hbr.cell _).trans rfl
      have hrf := hbr.frozen 0
      rw [Nat.sub_self, reps_zero, List.append_nil] at hb
      have HB := Lib.hid hb
      have hlt1 := hbv.lt
      have hTX : listsOf T = X := by have := hT.out; rwa [List.take_of_length_le (by omega)] at this
      have HTX := Lib.hid hTX
      clear hch hbr hbv hrows hb hTX
      go_wp2_with fail
      (try simp only [Exit.inBlock, Exit.then])
      refine bodyPost_ret (v := .agg #[.slice (some ⟨w.heap.size + 1 + 1, 0, none⟩) 8 8]) (by simp [results, Try.results88, go_sem, *]) rfl ?_
      have hcs : Chg (· = w.heap.size + 1) wo (wo.setCell ⟨w.heap.size + 1, 0, none⟩ (.slice (some ⟨w.heap.size + 1 + 1, 0, none⟩) 8 8)) := (Chg.refl (· = w.heap.size + 1) wo).setCell (p := ⟨w.heap.size + 1, 0, none⟩) (.inl rfl) _
      have hss : (wo.setCell ⟨w.heap.size + 1, 0, none⟩ (.slice (some ⟨w.heap.size + 1 + 1, 0, none⟩) 8 8)).heap.size = wo.heap.size := by simp [World.setCell]
      refine ⟨w.heap.size + 1 + 1, T, rfl, HTX.out, HC.out.own hcs (Nat.le_succ _), ?_, ?_⟩
      · rw [hTl, hss]
        exact OwnS.of_blk (HB.out.chg hcs (by omega)) (by omega) (by omega) (Nat.le_refl _)
      · rw [hss]
        exact (HRW.out.chg hcs (fun i h1 h2 h3 => by omega)).more (by omega) (Nat.le_refl _)
end Go.Proofs.Ytpiojofmflfkkaa
/- SaveSum of the program and of the reference. -/
namespace Go.Proofs.Ytpiojofmflfkkaa
open Go.RowKit
def sumTo (n : Int) (xs : List Int) : Int := xs.foldl (fun s x => (127 * s + x + 2) % 99991) (n % 99991)
def sumArgs (n : Int) (xs : List Int) : Prop := 0 ≤ n ∧ n ≤ 1000000 ∧ xs.length ≤ 48 ∧ ∀ x ∈ xs, -1 ≤ x ∧ x ≤ 47
open Classical in
noncomputable def saveSum (n : Int) (xs : List Int) : Int := if sumArgs n xs then sumTo n xs else -1
theorem saveSum_t {n : Int} {xs : List Int} (h : sumArgs n xs) : saveSum n xs = sumTo n xs := if_pos h
theorem saveSum_f {n : Int} {xs : List Int} (h : ¬ sumArgs n xs) : saveSum n xs = -1 := if_neg h
theorem sumTo_range (n : Int) (xs : List Int) : 0 ≤ sumTo n xs ∧ sumTo n xs < 99991 := by
  have : ∀ (l : List Int) (v : Int), 0 ≤ v → v < 99991 → 0 ≤ l.foldl (fun s x => (127 * s + x + 2) % 99991) v ∧ l.foldl (fun s x => (127 * s + x + 2) % 99991) v < 99991 := by
    intro l
    induction l with
    | nil => intro v h1 h2; exact ⟨h1, h2⟩
    | cons x l ih => intro v h1 h2; rw [List.foldl_cons]; exact ih _ (by omega) (by omega)
  exact this xs _ (by omega) (by omega)
theorem sumTo_snoc (n : Int) (xs : List Int) (x : Int) : sumTo n (xs ++ [x]) = (127 * sumTo n xs + x + 2) % 99991 := by unfold sumTo; rw [List.foldl_append]; rfl
theorem sumTo_succ (n : Int) (xs : List Int) (k : Nat) (h : k < xs.length) : sumTo n (xs.take (k + 1)) = (127 * sumTo n (xs.take k) + xs[k] + 2) % 99991 := by
  rw [List.take_succ_eq_append_getElem h, sumTo_snoc]
theorem saveSum_lo (n : Int) (xs : List Int) : -1 ≤ saveSum n xs ∧ saveSum n xs < 99991 := by
  by_cases h : sumArgs n xs
  · rw [saveSum_t h]; have := sumTo_range n xs; omega
  · rw [saveSum_f h]; omega
def SumP (w : World) (n : Int) (xs : List Int) (e : Ending) (w' : World) : Prop := ∃ s : Int, e = .returned (.int .i64 s) ∧ Hid (s = saveSum n xs) ∧ w = w'
theorem SumP.mk {w : World} {n s : Int} {xs : List Int} (h : s = saveSum n xs) : SumP w n xs (.returned (.int .i64 s)) w := ⟨s, rfl, Lib.hid h, rfl⟩
theorem pages_take_succ {xs : List Int} {k : Nat} (h : k < xs.length) (ha : ∀ x ∈ xs.take k, -1 ≤ x ∧ x ≤ 47) (hk : -1 ≤ xs[k] ∧ xs[k] ≤ 47) : ∀ x ∈ xs.take (k + 1), -1 ≤ x ∧ x ≤ 47 := by
  rw [List.take_succ_eq_append_getElem h]
  intro x hx
  rcases List.mem_append.1 hx with h1 | h1
  · exact ha x h1
  · simp at h1; subst h1; exact hk

set_option maxRecDepth 100000 in
set_option maxHeartbeats 1000000 in
theorem iSaveSum_any (F : Nat → Prop) (A : Option Addr) (c : Nat) (n : Int) (xs : List Int) (w : World) (h : Rd F w A (icells xs)) :
    Calls Try.prog 159 #[.int .i64 n, .slice A xs.length c] w (SumP w n xs) := by
  by_cases h1 : n < 0
  · have HS := Lib.hid (saveSum_f (xs := xs) (fun hh : sumArgs n xs => by have := hh.1; omega))
    go_enter Try.func159, Try.ntmps159
    go_wp2
    go_ret
    exact SumP.mk HS.out.symm
  by_cases h2 : 1000000 < n
  · have HS := Lib.hid (saveSum_f (xs := xs) (fun hh : sumArgs n xs => by have := hh.2.1; omega))
    go_enter Try.func159, Try.ntmps159
    go_wp2
    go_ret
    exact SumP.mk HS.out.symm
  by_cases h3 : 48 < xs.length
  · have HS := Lib.hid (saveSum_f (xs := xs) (fun hh : sumArgs n xs => by have := hh.2.2.1; omega))
    go_enter Try.func159, Try.ntmps159
    go_wp2
    go_ret
    exact SumP.mk HS.out.symm
  have hn0 : 0 ≤ n := by omega
  go_enter Try.func159, Try.ntmps159
  go_wp2
  go_loop [5, 23] (fun s i => ∃ (k : Nat) (v : Int), k ≤ xs.length ∧ i = .int .i64 k ∧ s = .int .i64 v ∧ 0 ≤ v ∧ v < 99991 ∧ Hid (v = sumTo n (xs.take k) ∧ ∀ x ∈ xs.take k, -1 ≤ x ∧ x ≤ 47)) (fun _ i => xs.length - (intOf i).toNat)
  case atStart => exact ⟨0, n % 99991, Nat.zero_le _, rfl, rfl, by omega, by omega, Lib.hid ⟨by simp [sumTo], by simp⟩⟩
  case round =>
    obtain ⟨k, v, hk, rfl, rfl, hv0, hv1, hv⟩ := hrel
    by_cases hlt : k < xs.length
    · obtain ⟨ad, rfl, hf, hbl, hc⟩ := ints_at h hlt
      by_cases hx : -1 ≤ xs[k] ∧ xs[k] ≤ 47
      · have HP := Lib.hid (pages_take_succ hlt hv.out.2 hx)
        have HV := Lib.hid (show (127 * v + xs[k] + 2) % 99991 = sumTo n (xs.take (k + 1)) by rw [sumTo_succ n xs k hlt, hv.out.1])
        have HX := Lib.hid hx
        obtain ⟨hx0, hx1⟩ := hx
        go_wp2_with fail
        refine (pageNumber_t _ _ HX.out).mono ?_
        rintro e w' ⟨rfl, rfl⟩
        have hnn : 0 ≤ 127 * v + xs[k] + 2 := by omega
        go_wp2
        go_round
        case rel => exact ⟨k + 1, (127 * v + xs[k] + 2) % 99991, by omega, by go_num, by go_num, by omega, by omega, Lib.hid ⟨HV.out, HP.out⟩⟩
        case measure => simp [intOf]; omega
      · have HS := Lib.hid (saveSum_f (n := n) (xs := xs) (fun hh => hx (hh.2.2.2 _ (List.getElem_mem hlt))))
        go_wp2_with fail
        refine (pageNumber_f _ _ hx).mono ?_
        rintro e w' ⟨rfl, rfl⟩
        clear hx
        go_wp2
        go_ret
        exact SumP.mk HS.out.symm
    · have hk' : k = xs.length := by omega
      subst hk'
      go_wp2
      go_ret
      have hv' := hv.out
      rw [List.take_length] at hv'
      exact SumP.mk (by rw [saveSum_t ⟨by omega, by omega, by omega, hv'.2⟩, hv'.1])

set_option maxRecDepth 100000 in
set_option maxHeartbeats 1000000 in
theorem sSaveSum_any (F : Nat → Prop) (A : Option Addr) (c : Nat) (n : Int) (xs : List Int) (w : World) (h : Rd F w A (icells xs)) :
    Calls Try.prog 157 #[.int .i64 n, .slice A xs.length c] w (SumP w n xs) := by
  by_cases h1 : 0 ≤ n ∧ n ≤ 1000000
  case neg =>
    have HS := Lib.hid (saveSum_f (xs := xs) (fun hh : sumArgs n xs => h1 ⟨hh.1, hh.2.1⟩))
    go_enter Try.func157, Try.ntmps157
    go_wp2_with fail
    refine (l1In_f _ 0 1000000 _ h1).mono ?_
    rintro e w' ⟨rfl, rfl⟩
    go_wp2
    go_ret
    exact SumP.mk HS.out.symm
  have H1 := Lib.hid h1
  obtain ⟨h1a, h1b⟩ := h1
  by_cases h3 : 48 < xs.length
  · have HS := Lib.hid (saveSum_f (xs := xs) (fun hh : sumArgs n xs => by have := hh.2.2.1; omega))
    go_enter Try.func157, Try.ntmps157
    go_wp2_with fail
    refine (l1In_t _ 0 1000000 _ H1.out).mono ?_
    rintro e w' ⟨rfl, rfl⟩
    go_wp2
    go_ret
    exact SumP.mk HS.out.symm
  go_enter Try.func157, Try.ntmps157
  go_wp2_with fail
  refine (l1In_t _ 0 1000000 _ H1.out).mono ?_
  rintro e w' ⟨rfl, rfl⟩
  go_wp2
  go_loop [5, 6] (fun s i => ∃ (k : Nat) (v : Int), k ≤ xs.length ∧ i = .int .i64 k ∧ s = .int .i64 v ∧ 0 ≤ v ∧ v < 99991 ∧ Hid (v = sumTo n (xs.take k) ∧ ∀ x ∈ xs.take k, -1 ≤ x ∧ x ≤ 47)) (fun _ i => xs.length - (intOf i).toNat)
  case atStart => exact ⟨0, n % 99991, Nat.zero_le _, rfl, rfl, by omega, by omega, Lib.hid ⟨by simp [sumTo], by simp⟩⟩
  case round =>
    obtain ⟨k, v, hk, rfl, rfl, hv0, hv1, hv⟩ := hrel
    by_cases hlt : k < xs.length
    · obtain ⟨ad, rfl, hf, hbl, hc⟩ := ints_at h hlt
      by_cases hx : -1 ≤ xs[k] ∧ xs[k] ≤ 47
      · have HP := Lib.hid (pages_take_succ hlt hv.out.2 hx)
        have HV := Lib.hid (show (127 * v + xs[k] + 2) % 99991 = sumTo n (xs.take (k + 1)) by rw [sumTo_succ n xs k hlt, hv.out.1])
        have HX := Lib.hid hx
        obtain ⟨hx0, hx1⟩ := hx
        go_wp2_with fail
        refine (l1In_t _ (-1) 47 _ HX.out).mono ?_
        rintro e w' ⟨rfl, rfl⟩
        have hnn : 0 ≤ 127 * v + xs[k] + 2 := by omega
        go_wp2
        go_round
        case rel => exact ⟨k + 1, (127 * v + xs[k] + 2) % 99991, by omega, by go_num, by go_num, by omega, by omega, Lib.hid ⟨HV.out, HP.out⟩⟩
        case measure => simp [intOf]; omega
      · have HS := Lib.hid (saveSum_f (n := n) (xs := xs) (fun hh => hx (hh.2.2.2 _ (List.getElem_mem hlt))))
        go_wp2_with fail
        refine (l1In_f _ (-1) 47 _ hx).mono ?_
        rintro e w' ⟨rfl, rfl⟩
        clear hx
        go_wp2
        go_ret
        exact SumP.mk HS.out.symm
    · have hk' : k = xs.length := by omega
      subst hk'
      go_wp2
      go_ret
      have hv' := hv.out
      rw [List.take_length] at hv'
      exact SumP.mk (by rw [saveSum_t ⟨by omega, by omega, by omega, hv'.2⟩, hv'.1])
end Go.Proofs.Ytpiojofmflfkkaa
/- SaveTable of the program and of the reference. -/
namespace Go.Proofs.Ytpiojofmflfkkaa
open Go.RowKit
def savArgs (X : List (List Int)) (n : Int) : Prop := tabOk X ∧ 0 ≤ n ∧ n ≤ 1000000
def SaveIs (X : List (List Int)) (n N : Int) (ys : List Int) (S : Int) : Prop :=
  (savArgs X n → N = n ∧ ys = X.flatten ∧ S = saveSum n X.flatten) ∧ (¬ savArgs X n → N = 0 ∧ ys = [] ∧ S = 0)
theorem SaveIs.det {X : List (List Int)} {n N N' S S' : Int} {ys ys' : List Int} (h : SaveIs X n N ys S) (h' : SaveIs X n N' ys' S') : N = N' ∧ ys = ys' ∧ S = S' := by
  by_cases ha : savArgs X n
  · obtain ⟨a, b, c⟩ := h.1 ha
    obtain ⟨a', b', c'⟩ := h'.1 ha
    exact ⟨by rw [a, a'], by rw [b, b'], by rw [c, c']⟩
  · obtain ⟨a, b, c⟩ := h.2 ha
    obtain ⟨a', b', c'⟩ := h'.2 ha
    exact ⟨by rw [a, a'], by rw [b, b'], by rw [c, c']⟩
def SaveP (w : World) (X : List (List Int)) (n : Int) (e : Ending) (w' : World) : Prop :=
  ∃ N A c ys S, e = .returned (.agg #[.int .i64 N, .slice A (ys : List Int).length c, .int .i64 S]) ∧ OwnS w.heap.size w'.heap.size w' 3 A ys.length c (icells ys) ∧ c ≤ maxLen ∧ Hid (SaveIs X n N ys S) ∧ Chg NoB w w'
theorem own_cap1 {w : World} {B n : Nat} {e : TypeId} {v : Value} {xs : List Value} (h : w.ownsRow B e 1 v n xs) : ∃ A c, v = .slice A n c ∧ OwnS B w.heap.size w e A n c xs ∧ c ≤ maxLen := by
  obtain ⟨A, c, rfl, ho⟩ := OwnS.of_row h
  refine ⟨A, c, rfl, ho, ?_⟩
  rcases h.2 with ⟨h1, _⟩ | ⟨g, cap, cur, h1, _, _, _, h2, _⟩
  · cases h1; exact Nat.zero_le _
  · cases h1; exact h2
theorem flat_take_len {X : List (List Int)} (h : tabOk X) (f : Nat) (hf : f ≤ 8) : (X.take f).flatten.length = 6 * f := by
  induction f with
  | zero => simp
  | succ f ih =>
    have hlt : f < X.length := by rw [h.1]; omega
    rw [take_flat_succ X f hlt, List.length_append, ih (by omega), (h.2 f hlt).1]
    omega
theorem flat_len {X : List (List Int)} (h : tabOk X) : X.flatten.length = 48 := by
  have := flat_take_len h 8 (Nat.le_refl _)
  rwa [List.take_of_length_le (by rw [h.1]; exact Nat.le_refl _)] at this
theorem flat_sumArgs {X : List (List Int)} {n : Int} (h : savArgs X n) : sumArgs n X.flatten := by
  refine ⟨h.2.1, h.2.2, by rw [flat_len h.1]; omega, fun x hx => ?_⟩
  obtain ⟨r, hr, hxr⟩ := List.mem_flatten.1 hx
  obtain ⟨f, hf, rfl⟩ := List.getElem_of_mem hr
  obtain ⟨k, hk, rfl⟩ := List.getElem_of_mem hxr
  have := (h.1.2 f hf).2 k hk
  omega
theorem cells_one' (xs : List Int) : ∀ u ∈ icells xs, u.oneCell' = true := by
  intro u hu
  obtain ⟨x, _, rfl⟩ := List.mem_map.1 hu
  rfl
theorem icells_app (xs ys : List Int) : icells (xs ++ ys) = icells xs ++ icells ys := by simp [icells]

set_option maxRecDepth 100000 in
set_option maxHeartbeats 2000000 in
theorem sSaveTable_any (F : Nat → Prop) (A : Option Addr) (c : Nat) (X : List (List Int)) (n : Int) (w : World) (h : TabR F w A X) (hl : X.length ≤ 9223372036854775807) (hX : ∀ r ∈ X, r.length ≤ 9223372036854775807) :
    Calls Try.prog 123 #[.agg #[.slice A X.length c], .int .i64 n] w (SaveP w X n) := by
  obtain ⟨i0, hi, hz0, hz1, hz2⟩ := info_parts info_int
  obtain ⟨hb1, hb2, hcb⟩ := lit2 w 31 26 #[.slice A X.length c] #[.int .i64 0, .slice none 0 0, .int .i64 0]
  have HB1 := Lib.hid hb1
  have HB2 := Lib.hid hb2
  have HC0 := Lib.hid hcb
  have h0 := h.lt.new hcb
  clear hb1 hb2 hcb
  go_enter Try.func123, Try.ntmps123
  go_wp2_with fail
  refine (sTableValid_any _ A c X _ h0 hl hX).mono ?_
  rintro e w1 ⟨r, rfl, hr, hc1⟩
  have HC1 := Lib.hid (HC0.out.trans hc1)
  have hb1 := HB1.out.chg hc1 (fun x => x)
  have hb2 := HB2.out.chg hc1 (fun x => x)
  have x0 : w1.cell? ⟨w.heap.size, 0, none⟩ = some (.slice A X.length c) := (hb1.cell _).trans rfl
  have y0 : w1.cell? ⟨w.heap.size + 1, 0, none⟩ = some (.int .i64 0) := (hb2.cell _).trans rfl
  have y1 : w1.cell? ⟨w.heap.size + 1, 1, none⟩ = some (.slice none 0 0) := (hb2.cell _).trans rfl
  have y2 : w1.cell? ⟨w.heap.size + 1, 2, none⟩ = some (.int .i64 0) := (hb2.cell _).trans rfl
  have f0 := hb2.frozen 0
  have f1 := hb2.frozen 1
  have f2 := hb2.frozen 2
  have HB2' := Lib.hid hb2
  have H1 := Lib.hid (h.new HC1.out)
  clear hb1 hb2 hc1 h0
  by_cases ha : savArgs X n
  case neg =>
    have HNO : ∀ wq, wq = ((w1.setCell ⟨w.heap.size + 1, 0, none⟩ (.int .i64 0)).setCell ⟨w.heap.size + 1, 1, none⟩ (.slice none 0 0)).setCell ⟨w.heap.size + 1, 2, none⟩ (.int .i64 0) → Hid (SaveP w X n (.returned (.agg #[.int .i64 0, .slice none 0 0, .int .i64 0])) wq) := fun wq hq => Lib.hid ⟨0, none, 0, [], 0, rfl, OwnS.empty _ _ _ _ _ _, Nat.zero_le _, Lib.hid ⟨fun hh => absurd hh ha, fun _ => ⟨rfl, rfl, rfl⟩⟩, by
      rw [hq]
      exact HC1.out.own ((((Chg.refl (· = w.heap.size + 1) w1).setCell (p := ⟨w.heap.size + 1, 0, none⟩) (.inl rfl) _).setCell (p := ⟨w.heap.size + 1, 1, none⟩) (.inl rfl) _).setCell (p := ⟨w.heap.size + 1, 2, none⟩) (.inl rfl) _) (Nat.le_succ _)⟩
    cases r
    · clear hr
      go_wp2_with fail
      (try simp only [Exit.inBlock, Exit.then])
      refine bodyPost_ret (v := .agg #[.int .i64 0, .slice none 0 0, .int .i64 0]) (by simp [results, Try.results123, go_sem, *]) rfl ?_
      exact (HNO _ rfl).out
    · have hX' := hr.1 rfl
      have hl1 : ¬ (0 ≤ n ∧ n ≤ 1000000) := fun hq => ha ⟨hX', hq⟩
      have HL1 := Lib.hid hl1
      clear hr hX' hl1
      go_wp2_with fail
      refine (l1In_f _ 0 1000000 _ HL1.out).mono ?_
      rintro e w' ⟨rfl, rfl⟩
      go_wp2_with fail
      (try simp only [Exit.inBlock, Exit.then])
      refine bodyPost_ret (v := .agg #[.int .i64 0, .slice none 0 0, .int .i64 0]) (by simp [results, Try.results123, go_sem, *]) rfl ?_
      exact (HNO _ rfl).out
  obtain rfl : r = true := hr.2 ha.1
  have HA := Lib.hid ha
  have h8 : X.length = 8 := ha.1.1
  obtain ⟨_, hn0, hn1⟩ := ha
  clear hr
  go_wp2_with fail
  refine (l1In_t _ 0 1000000 _ ⟨hn0, hn1⟩).mono ?_
  rintro e w' ⟨rfl, rfl⟩
  go_wp2
  go_loopw [5, 6] (fun v i wr => ∃ f : Nat, f ≤ 8 ∧ i = .int .i64 f ∧ Chg NoB w1 wr ∧ wr.ownsRow w1.heap.size 3 1 v (6 * f) (icells (X.take f).flatten)) (fun _ i _ => 8 - (intOf i).toNat)
  case atStart => exact ⟨0, Nat.zero_le _, rfl, (Chg.refl _ _).alloc _, own_empty w1 _ 1 _ (Nat.le_refl _)⟩
  case round =>
    obtain ⟨f, hf8, rfl, hch, how⟩ := hrel
    have HC := Lib.hid hch
    have HO := Lib.hid how
    have hsz := hch.size
    have x0 := hch.cell x0 (fun x => x)
    by_cases hlt : f < 8
    · have hlt' : f < X.length := by omega
      obtain ⟨ad, B, c', rfl, hfF, hcell, hr, hc1⟩ := (H1.out.new hch) f hlt'
      have h6 : X[f].length = 6 := (HA.out.1.2 f hlt').1
      have hi0 : (0 : Int) ≤ (f : Int) := Int.natCast_nonneg _
      have hi1 : (f : Int) < 8 := by omega
      have HR := Lib.hid hr
      have HTF := Lib.hid (take_flat_succ X f hlt')
      have hone := Lib.hid (cells_one' X[f])
      have hcl := Lib.hid (show (icells X[f]).length = 6 * 1 by rw [icells_length, h6])
      rw [h6] at hcell
      clear hch how hr h6 hc1
      go_wp2_with (at_builtin; refine wpList_append_rd rfl (.tmp 21) (.tmp 26) _ rfl w1.heap.size 3 i0 (.int .i64 0) 1 8 Try.underlying24 hi hz0 hz1 hz2 rfl (by decide) _ _ _ rfl HO.out B 6 c' (icells X[f]) rfl hcl.out HR.out hone.out (by simp only [maxLen]; omega) (by omega) hsz ?_; intro v' w5 hown' hgrow _)
      go_roundw
      case rel =>
        refine ⟨f + 1, by omega, by go_num, chg_grown HO.out hgrow HC.out (Nat.le_refl _), ?_⟩
        rw [HTF.out, icells_app, show 6 * (f + 1) = 6 * f + 6 by omega]
        exact hown'
      case measure => simp [intOf]; omega
    · obtain rfl : f = 8 := by omega
      obtain ⟨A', c', rfl, ho, hcm⟩ := own_cap1 HO.out
      have hXf : X.take 8 = X := List.take_of_length_le (by omega)
      rw [hXf] at ho
      have HW := Lib.hid ho
      have hlen := flat_len HA.out.1
      have hcv := sSaveSum_any _ A' c' n X.flatten wr ho.rd
      rw [hlen] at hcv
      have HCV := Lib.hid hcv
      have HLEN := Lib.hid hlen
      have y0 := hch.cell y0 (fun x => x)
      have y1 := hch.cell y1 (fun x => x)
      have y2 := hch.cell y2 (fun x => x)
      have hb2 := HB2'.out.chg hch (fun x => x)
      have f0 := hb2.frozen 0
      have f1 := hb2.frozen 1
      have f2 := hb2.frozen 2
      have hlt1 : w.heap.size + 1 < w1.heap.size := HB2'.out.lt
      clear hch how ho hcv hlen hXf hb2
      go_wp2_with fail
      refine HCV.out.mono ?_
      rintro e w' ⟨S, rfl, hS, rfl⟩
      go_wp2_with fail
      (try simp only [Exit.inBlock, Exit.then])
      refine bodyPost_ret (v := .agg #[.int .i64 n, .slice A' 48 c', .int .i64 S]) (by simp [results, Try.results123, go_sem, *]) rfl ?_
      have hcs : Chg (· = w.heap.size + 1) wr (((wr.setCell ⟨w.heap.size + 1, 0, none⟩ (.int .i64 n)).setCell ⟨w.heap.size + 1, 1, none⟩ (.slice A' 48 c')).setCell ⟨w.heap.size + 1, 2, none⟩ (.int .i64 S)) := (((Chg.refl (· = w.heap.size + 1) wr).setCell (p := ⟨w.heap.size + 1, 0, none⟩) (.inl rfl) _).setCell (p := ⟨w.heap.size + 1, 1, none⟩) (.inl rfl) _).setCell (p := ⟨w.heap.size + 1, 2, none⟩) (.inl rfl) _
      refine ⟨n, A', c', X.flatten, S, by rw [HLEN.out], ?_, hcm, Lib.hid ⟨fun _ => ⟨rfl, rfl, hS.out⟩, fun hh => absurd HA.out hh⟩, (HC1.out.trans HC.out).own hcs (Nat.le_succ _)⟩
      rw [HLEN.out]
      exact (HW.out.chg hcs (fun i h1 h2 h3 => by omega)).more (by omega) (by simp [World.setCell])
end Go.Proofs.Ytpiojofmflfkkaa
/- LoadTable of the program and of the reference. -/
namespace Go.Proofs.Ytpiojofmflfkkaa
open Go.RowKit
def chunk (xs : List Int) (f : Nat) : List Int := (xs.drop (6 * f)).take 6
def chunks (xs : List Int) : List (List Int) := (List.range 8).map (chunk xs)
def loadArgs (n : Int) (xs : List Int) (s : Int) : Prop := xs.length = 48 ∧ 0 ≤ n ∧ n ≤ 1000000 ∧ tabOk (chunks xs) ∧ saveSum n xs = s
def LoadIs (n : Int) (xs : List Int) (s : Int) (X : List (List Int)) (b : Bool) : Prop :=
  (loadArgs n xs s → X = chunks xs ∧ b = true) ∧ (¬ loadArgs n xs s → X = [] ∧ b = false)
theorem LoadIs.det {n s : Int} {xs : List Int} {X X' : List (List Int)} {b b' : Bool} (h : LoadIs n xs s X b) (h' : LoadIs n xs s X' b') : X = X' ∧ b = b' := by
  by_cases ha : loadArgs n xs s
  · exact ⟨by rw [(h.1 ha).1, (h'.1 ha).1], by rw [(h.1 ha).2, (h'.1 ha).2]⟩
  · exact ⟨by rw [(h.2 ha).1, (h'.2 ha).1], by rw [(h.2 ha).2, (h'.2 ha).2]⟩
def LoadP (w : World) (n : Int) (xs : List Int) (s : Int) (e : Ending) (w' : World) : Prop :=
  ∃ A c T b, e = .returned (.tuple #[.agg #[.slice A (T : List RowO).length c], .bool b]) ∧ TabO w.heap.size w'.heap.size w' A c T ∧ Hid (LoadIs n xs s (listsOf T) b) ∧ Chg NoB w w'
theorem chunk_len {xs : List Int} (h : xs.length = 48) {f : Nat} (hf : f < 8) : (chunk xs f).length = 6 := by unfold chunk; rw [List.length_take, List.length_drop]; omega
theorem chunks_len (xs : List Int) : (chunks xs).length = 8 := by simp [chunks]
theorem chunks_get (xs : List Int) (f : Nat) (hf : f < (chunks xs).length) : (chunks xs)[f] = chunk xs f := by simp [chunks]
theorem chunks_flat {xs : List Int} (h : xs.length = 48) : (chunks xs).flatten = xs := by
  have : ∀ k, k ≤ 8 → ((List.range k).map (chunk xs)).flatten = xs.take (6 * k) := by
    intro k hk
    induction k with
    | zero => simp
    | succ k ih =>
      rw [List.range_succ, List.map_append, List.flatten_append, ih (by omega)]
      simp only [List.map_cons, List.map_nil, List.flatten_cons, List.flatten_nil, List.append_nil, chunk]
      rw [show 6 * (k + 1) = 6 * k + 6 by omega, List.take_add]
  have h8 := this 8 (Nat.le_refl _)
  unfold chunks
  rw [h8, List.take_of_length_le (by omega)]
theorem rd_drop {F : Nat → Prop} {w : World} {ad : Addr} {cs : List Value} (h : Rd F w (some ad) cs) (k : Nat) : Rd F w (some (ad.add k)) (cs.drop k) := fun j v hj => by
  rw [List.getElem?_drop] at hj
  obtain ⟨ad', e, hf, hc⟩ := h (k + j) v hj
  cases e
  exact ⟨_, rfl, by rw [block_add]; exact hf, by rw [add_add']; exact hc⟩
theorem rd_front {F : Nat → Prop} {w : World} {A : Option Addr} {cs : List Value} (h : Rd F w A cs) (k : Nat) : Rd F w A (cs.take k) := fun j v hj => h j v (by
  rw [List.getElem?_take] at hj
  split at hj
  · exact hj
  · cases hj)
theorem load_step (xs : List Int) (f : Nat) (hf : f < 8) : ((chunks xs).take f ++ (emptyRows 8).drop f).set f (chunk xs f) = (chunks xs).take (f + 1) ++ (emptyRows 8).drop (f + 1) := by
  have hl : ((chunks xs).take f).length = f := by rw [List.length_take, chunks_len]; omega
  have he : (emptyRows 8).length = 8 := by simp [emptyRows]
  rw [List.set_append_right _ _ (by omega), hl, Nat.sub_self, List.drop_eq_getElem_cons (by omega), List.set_cons_zero, List.take_succ_eq_append_getElem (by rw [chunks_len]; exact hf), chunks_get, List.append_assoc]
  rfl
theorem load_get (xs : List Int) (f : Nat) (hf : f < 8) (h : f < ((chunks xs).take f ++ (emptyRows 8).drop f).length) : ((chunks xs).take f ++ (emptyRows 8).drop f)[f] = List.replicate 6 (-1) := by
  have hl : ((chunks xs).take f).length = f := by rw [List.length_take, chunks_len]; omega
  rw [List.getElem_append_right (by omega), List.getElem_drop]
  simp only [emptyRows, List.getElem_replicate]

def ilPost (g B0 : Nat) (n s q : Int) (A : Option Addr) (c : Nat) (valid : Bool) (i : Nat) : Value → World → Prop :=
  match valid with
  | true => (match i with
    | 0 => fun v _ => v = .agg #[.slice (some ⟨g, 0, none⟩) 8 8]
    | 1 => fun v _ => v = .bool true
    | 2 | 3 => fun v _ => v = .bool false
    | 4 => fun v _ => v = .pointer (some ⟨B0, 0, none⟩)
    | 5 => fun v _ => v = .int .i64 n
    | 6 => fun v _ => v = .pointer (some ⟨B0, 1, none⟩)
    | 7 => fun v _ => v = .slice A 48 c
    | 8 => fun v _ => v = .int .i64 q
    | 9 => fun v _ => v = .pointer (some ⟨B0, 2, none⟩)
    | 10 => fun v _ => v = .int .i64 s
    | _ => fun v _ => v = .bool (q != s))
  | false => (match i with
    | 0 => fun v _ => v = .agg #[.slice (some ⟨g, 0, none⟩) 8 8]
    | 1 => fun v _ => v = .bool false
    | 2 | 3 | 12 => fun v _ => v = .bool true
    | _ => fun _ _ => True)
theorem ilPost_stab {g B0 : Nat} {n s q : Int} {A : Option Addr} {c : Nat} {valid : Bool} {i : Nat} {v : Value} {w1 w2 : World} (h : ilPost g B0 n s q A c valid i v w1) : ilPost g B0 n s q A c valid i v w2 := by
  cases valid
  · unfold ilPost at *
    simp only at *
    split at h <;> exact h
  · unfold ilPost at *
    simp only at *
    split at h <;> exact h
set_option maxRecDepth 100000 in
set_option maxHeartbeats 4000000 in
theorem iLoadTable_any (F : Nat → Prop) (n s : Int) (A : Option Addr) (c : Nat) (xs : List Int) (w : World) (h : Rd F w A (icells xs)) (hc : xs.length ≤ c) (hm : c ≤ 9223372036854775807) :
    Calls Try.prog 125 #[.agg #[.int .i64 n, .slice A xs.length c, .int .i64 s]] w (LoadP w n xs s) := by
  obtain ⟨j0, hj, hy0, hy1, hy2⟩ := info_parts info_int
  have hsz1 : (Try.prog.info? 3).map (·.size) = some 1 := by rw [hj]; simp [hy1]
  obtain ⟨hb1, hb2, hcb⟩ := lit2 w 26 31 #[.int .i64 n, .slice A xs.length c, .int .i64 s] #[.slice none 0 0]
  have HB1 := Lib.hid hb1
  have HB2 := Lib.hid hb2
  have HC0 := Lib.hid hcb
  have HNO : ¬ loadArgs n xs s → ∀ wq, Chg NoB w wq → Hid (LoadP w n xs s (.returned (.tuple #[.agg #[.slice none 0 0], .bool false])) wq) := fun ha wq hq => Lib.hid ⟨none, 0, [], false, rfl, TabO.nil _ _ _ _ _, Lib.hid ⟨fun hh => absurd hh ha, fun _ => ⟨rfl, rfl⟩⟩, hq⟩
  have hcs0 : ∀ wq, Chg NoB w wq → Chg NoB w (wq.setCell ⟨w.heap.size + 1, 0, none⟩ (.slice none 0 0)) := fun wq hq => hq.own ((Chg.refl (· = w.heap.size + 1) wq).setCell (p := ⟨w.heap.size + 1, 0, none⟩) (.inl rfl) _) (Nat.le_succ _)
  have HCS0 := Lib.hid hcs0
  clear hb1 hb2 hcb hcs0
  by_cases hn0 : n < 0
  · go_enter Try.func125, Try.ntmps125
    go_wp2_with fail
    (try simp only [Exit.inBlock, Exit.then])
    refine bodyPost_ret (v := .tuple #[.agg #[.slice none 0 0], .bool false]) (by simp [results, Try.results125, go_sem, *]) rfl ?_
    exact (HNO (fun hh => by have := hh.2.1; omega) _ HC0.out).out
  by_cases hn1 : 1000000 < n
  · go_enter Try.func125, Try.ntmps125
    go_wp2_with fail
    (try simp only [Exit.inBlock, Exit.then])
    refine bodyPost_ret (v := .tuple #[.agg #[.slice none 0 0], .bool false]) (by simp [results, Try.results125, go_sem, *]) rfl ?_
    exact (HNO (fun hh => by have := hh.2.2.1; omega) _ HC0.out).out
  by_cases h48 : xs.length = 48
  case neg =>
    have h48' : ((xs.length : Int) != 48) = true := by rw [bne_iff_ne]; omega
    have H48 := Lib.hid h48
    clear h48
    go_enter Try.func125, Try.ntmps125
    go_wp2_with fail
    (try simp only [Exit.inBlock, Exit.then])
    refine bodyPost_ret (v := .tuple #[.agg #[.slice none 0 0], .bool false]) (by simp [results, Try.results125, go_sem, *]) rfl ?_
    exact (HNO (fun hh => H48.out hh.1) _ HC0.out).out
  have H48 := Lib.hid h48
  rw [h48] at HB1 HB2 HC0 ⊢
  obtain ⟨ad, hA0⟩ : ∃ ad, A = some ad := by
    obtain ⟨ad, e, _⟩ := h.at_ (k := 0) (by rw [icells_length, h48]; omega)
    exact ⟨ad, e⟩
  subst hA0
  have hc48 : 48 ≤ c := by omega
  have HH := Lib.hid h
  clear h48 h
  go_enter Try.func125, Try.ntmps125
  go_wp2_with fail
  refine (emptyTable_any _).mono ?_
  rintro e w1 ⟨g, T, rfl, hT, hc1, hO⟩
  have hO' := hO.new ((Chg.refl NoB w1).alloc (.cells #[.slice (some ⟨g, 0, none⟩) 8 8] 31))
  have hb1 := (HB1.out.chg hc1 (fun x => x)).chg ((Chg.refl NoB w1).alloc (.cells #[.slice (some ⟨g, 0, none⟩) 8 8] 31)) (fun x => x)
  have hb2 := (HB2.out.chg hc1 (fun x => x)).chg ((Chg.refl NoB w1).alloc (.cells #[.slice (some ⟨g, 0, none⟩) 8 8] 31)) (fun x => x)
  have HC1 := Lib.hid ((HC0.out.trans hc1).alloc (.cells #[.slice (some ⟨g, 0, none⟩) 8 8] 31))
  have HV := Lib.hid (Blk.new w1 31 #[.slice (some ⟨g, 0, none⟩) 8 8])
  have HB1' := Lib.hid hb1
  have HB2' := Lib.hid hb2
  have HO := Lib.hid hO'
  have HT0 := Lib.hid hT
  have hBE : w.heap.size + 1 < ((w.alloc (.cells #[.int .i64 n, .slice (some ad) 48 c, .int .i64 s] 26)).alloc (.cells #[.slice none 0 0] 31)).heap.size := HB2.out.lt
  have hBEw := hc1.size
  obtain ⟨BB, hBB⟩ : ∃ BB, ((w.alloc (.cells #[.int .i64 n, .slice (some ad) 48 c, .int .i64 s] 26)).alloc (.cells #[.slice none 0 0] 31)).heap.size = BB := ⟨_, rfl⟩
  rw [hBB] at hBE hBEw HO
  clear hBB hO hO' hb1 hb2 hc1 hT HB1 HB2 HC0
  go_wp2
  go_loopw [25] (fun i wr => ∃ (f : Nat) (T' : List RowO), f ≤ 8 ∧ i = .int .i64 f ∧ Chg NoB w wr ∧ Blk wr w.heap.size 26 #[.int .i64 n, .slice (some ad) 48 c, .int .i64 s] ∧ Blk wr (w.heap.size + 1) 31 #[.slice none 0 0] ∧ Blk wr w1.heap.size 31 #[.slice (some ⟨g, 0, none⟩) 8 8] ∧ Hid (listsOf T' = (chunks xs).take f ++ (emptyRows 8).drop f) ∧ TabO BB w1.heap.size wr (some ⟨g, 0, none⟩) 8 T') (fun i _ => 8 - (intOf i).toNat)
  case atStart => exact ⟨0, T, Nat.zero_le _, rfl, HC1.out, HB1'.out, HB2'.out, HV.out, Lib.hid (by rw [HT0.out]; simp), HO.out⟩
  case round =>
    obtain ⟨wo, rfl⟩ : ∃ wo, wo = wr := ⟨_, rfl⟩
    obtain ⟨f, T', hf8, rfl, hch, hbs, hbr, hbv, hT, hO⟩ := hrel
    have hTl : T'.length = 8 := by have := congrArg List.length hT.out; rw [listsOf_length, List.length_append, List.length_take, List.length_drop, chunks_len] at this; simp [emptyRows] at this; omega
    have HC := Lib.hid hch
    have HS := Lib.hid hbs
    have HR := Lib.hid hbr
    have HVV := Lib.hid hbv
    have HOO := Lib.hid hO
    have v0 : wo.cell? ⟨w1.heap.size, 0, none⟩ = some (.slice (some ⟨g, 0, none⟩) 8 8) := (hbv.cell _).trans rfl
    have s0 : wo.cell? ⟨w.heap.size, 0, none⟩ = some (.int .i64 n) := (hbs.cell _).trans rfl
    have s1 : wo.cell? ⟨w.heap.size, 1, none⟩ = some (.slice (some ad) 48 c) := (hbs.cell _).trans rfl
    have s2 : wo.cell? ⟨w.heap.size, 2, none⟩ = some (.int .i64 s) := (hbs.cell _).trans rfl
    by_cases hlt : f < 8
    · have hTk : f < T'.length := by omega
      have hi0 : (0 : Int) ≤ (f : Int) := Int.natCast_nonneg _
      have hi1 : (f : Int) < 8 := by omega
      obtain ⟨ad1, e1, hf1, hbl1, hc0⟩ := hO.1.rd.at_ (k := f) (by simpa using hTk)
      injection e1 with e1
      subst e1
      rw [List.getElem_map] at hc0
      have hxs : T'[f].xs = List.replicate 6 (-1) := by
        have h1 : (listsOf T')[f]'(by rw [listsOf_length]; exact hTk) = T'[f].xs := by simp [listsOf]
        rw [← h1]
        have h2 := load_get xs f hlt (by rw [← hT.out, listsOf_length]; exact hTk)
        simp only [hT.out]
        exact h2
      have hok := hO.2.1 T'[f] (List.getElem_mem hTk)
      unfold RowO.cell at hc0
      rw [hxs, List.length_replicate] at hc0
      have hgadd : (⟨g, 0, none⟩ : Addr).add f = ⟨g, f, none⟩ := by unfold Addr.add; split <;> simp_all
      rw [hgadd] at hc0
      have hchl : (icells (chunk xs f)).length = 6 := by rw [icells_length, chunk_len H48.out hlt]
      have hsrc : Rd F wo (some (ad.add (f * 6))) (icells (chunk xs f)) := by
        rw [Nat.mul_comm f 6]
        have h1 := rd_front (rd_drop (HH.out.new hch) (6 * f)) 6
        unfold chunk icells
        unfold icells at h1
        rw [List.map_take, List.map_drop]
        exact h1
      have hrow := hok.2.2.1
      rw [hxs] at hrow
      obtain ⟨w6, hr6, hc6, hb6⟩ := run_copy_blk (P := Try.prog) 24 24 3 3 T'[f].g 6 T'[f].c (some (ad.add (f * 6))) (48 - f * 6) (c - f * 6) (icells (List.replicate 6 (-1)) ++ T'[f].rest) 3 (icells (chunk xs f)) Try.underlying24 hsz1 (hrow.chg (Chg.refl NoB wo).drew (fun x => x)) (by rw [hchl]; show 6 = min (48 - f * 6) 6; omega) (by rw [hchl]; decide) (hsrc.new (Chg.refl NoB wo).drew) (by rw [hchl, List.length_append, icells_length, List.length_replicate]; omega) (fun u hu => by obtain ⟨x, _, rfl⟩ := List.mem_map.1 hu; rfl)
      rw [List.drop_append_of_le_length (by rw [hchl, icells_length, List.length_replicate]; exact Nat.le_refl _), List.drop_of_length_le (by rw [hchl, icells_length, List.length_replicate]; exact Nat.le_refl _), List.nil_append] at hb6
      have hc6' : Chg (· = T'[f].g) wo w6 := ((Chg.refl _ wo).drew).trans hc6
      have hgB : BB ≤ T'[f].g := hok.1
      have hgE : T'[f].g < w1.heap.size := hok.2.1
      have hq0 : (0 : Int) ≤ (f : Int) * 6 := by omega
      have hq1 : (f : Int) * 6 ≤ 48 := by omega
      have hq2 : (48 : Int) ≤ (c : Int) := by omega
      have hlen2 : (chunk xs f).length = T'[f].xs.length := by rw [chunk_len H48.out hlt, hxs, List.length_replicate]
      have hrows := rows_mark (ys := chunk xs f) HOO.out.2 hTk (hc6'.mono (G := fun i => T'[f].g ≤ i ∧ i < T'[f].g + 1) (fun i _ hi => by omega)) hlen2 hb6
      have hhd : OwnS BB w1.heap.size w6 24 (some ⟨g, 0, none⟩) 8 8 (T'.map RowO.cell) := by
        have h0 := HOO.out.1
        rw [hTl] at h0
        refine ⟨h0.1, ?_⟩
        rcases h0.2 with h0 | ⟨g', rest, hA, hg, hE, hb⟩
        · exact .inl h0
        · exact .inr ⟨g', rest, hA, hg, hE, hb.chg hc6' (fun he => ty_ne (Blk.ty hrow (by rw [← he]; exact hb)))⟩
      have hcell2 := rows_cell (rest' := T'[f].rest) hTk hlen2
      have HN := Lib.hid (show TabO BB w1.heap.size w6 (some ⟨g, 0, none⟩) 8 (T'.set f ⟨T'[f].g, T'[f].c, chunk xs f, T'[f].rest⟩) from ⟨by rw [List.length_set, hTl, hcell2]; exact hhd, hrows⟩)
      have HL := Lib.hid (show listsOf (T'.set f ⟨T'[f].g, T'[f].c, chunk xs f, T'[f].rest⟩) = (chunks xs).take (f + 1) ++ (emptyRows 8).drop (f + 1) by rw [rows_lists, hT.out]; exact load_step xs f hlt)
      have HC6 := Lib.hid hc6'
      clear hbs hbr hbv hch hO hok hsrc hrow hb6 hc6 hc6' hrows hhd hcell2 hlen2 hxs
      go_wp2
      go_region
      go_wp2
      go_roundw
      case rel => exact ⟨f + 1, T'.set f ⟨T'[f].g, T'[f].c, chunk xs f, T'[f].rest⟩, by omega, by go_num, HC.out.own HC6.out (by omega), HS.out.chg HC6.out (by omega), HR.out.chg HC6.out (by omega), HVV.out.chg HC6.out (by omega), HL, HN.out⟩
      case measure => simp [intOf]; omega
    · obtain rfl : f = 8 := by omega
      have hlX : listsOf T' = chunks xs := by have := hT.out; rwa [List.take_of_length_le (by rw [chunks_len]; exact Nat.le_refl _), List.drop_of_length_le (by simp [emptyRows]), List.append_nil] at this
      have hrd := hO.reads
      rw [hlX] at hrd
      have HTR := Lib.hid hrd
      have HLX := Lib.hid hlX
      have HRD := Lib.hid (HH.out.new hch)
      have HTL := Lib.hid hTl
      obtain ⟨q, hq⟩ : ∃ q, saveSum n xs = q := ⟨_, rfl⟩
      have HQ := Lib.hid hq
      clear hrd hlX hO hbs hbr hbv hch hq hTl
      by_cases hv : tabOk (chunks xs)
      · have HV := Lib.hid hv
        clear hv
        go_wp2_with fail
        refine wp_region_rgg [(3, false)] (WInv := fun _ _ w4 => Chg NoB wo w4) (R := Chg NoB) (Post := ilPost g w.heap.size n s q (some ad) c true) (by kernel_rfl) (by kernel_rfl) (fun p hp v w h => by simp at hp; subst hp; exact h) (fun _ _ _ _ h _ _ => h) (fun i v w1 w2 h _ => ilPost_stab h) ((Chg.refl _ _).drew) ⟨?_, ?_, ?_, ?_, ?_, ?_, ?_, ?_, ?_, ?_, ?_, ?_, ?_, trivial⟩ ?_
        · rintro c1 m a w4 hc1 hch4 hm hn
          have e1 : a.tmps[4]?.getD undef = .pointer (some ⟨w1.heap.size, 0, none⟩) := hn.1
          have hz := hch4.cell v0 (fun x => x)
          exact rg_val (v := .agg #[.slice (some ⟨g, 0, none⟩) 8 8]) (by simp [execOp, go_sem, e1, hz]) rfl hch4 (Chg.refl _ _) rfl
        · rintro c1 m a w4 hc1 hch4 hm hn
          obtain ⟨⟨_, e1, _, rfl⟩, -⟩ := hn
          refine rg_call (f := 17) (args := #[.agg #[.slice (some ⟨g, 0, none⟩) 8 8]]) (by simp [go_sem, e1]) rfl ?_
          have hcv := iTableValid_any _ (some ⟨g, 0, none⟩) 8 (chunks xs) w4 (HTR.out.new hch4)
          rw [chunks_len] at hcv
          refine hcv.mono ?_
          rintro e w5 ⟨r, rfl, hr, hc5⟩
          have hrt : r = true := hr.2 HV.out
          exact ⟨_, rfl, hch4.trans hc5, hc5, by rw [hrt]; rfl⟩
        · rintro c1 m a w4 hc1 hch4 hm hn
          obtain ⟨⟨_, e1, _, rfl⟩, -⟩ := hn
          exact rg_val (v := .bool false) (by simp [execOp, go_sem, e1]) rfl hch4 (Chg.refl _ _) rfl
        · rintro c1 m a w4 hc1 hch4 hm hn
          obtain ⟨⟨_, e1, _, rfl⟩, -⟩ := hn
          exact rg_val (v := .bool false) (by simp [execOp, go_sem, e1]) rfl hch4 (Chg.refl _ _) rfl
        · rintro c1 m a w4 hc1 hch4 hm hn
          have e1 : a.tmps[1]?.getD undef = .pointer (some ⟨w.heap.size, 0, none⟩) := hn.1
          exact rg_val (v := .pointer (some ⟨w.heap.size, 0, none⟩)) (by simp [execOp, go_sem, e1]) rfl hch4 (Chg.refl _ _) rfl
        · rintro c1 m a w4 hc1 hch4 hm hn
          obtain ⟨⟨_, e1, _, rfl⟩, -⟩ := hn
          have hz := hch4.cell s0 (fun x => x)
          exact rg_val (v := .int .i64 n) (by simp [execOp, go_sem, e1, hz]) rfl hch4 (Chg.refl _ _) rfl
        · rintro c1 m a w4 hc1 hch4 hm hn
          have e1 : a.tmps[1]?.getD undef = .pointer (some ⟨w.heap.size, 0, none⟩) := hn.1
          exact rg_val (v := .pointer (some ⟨w.heap.size, 1, none⟩)) (by simp [execOp, go_sem, e1]) rfl hch4 (Chg.refl _ _) rfl
        · rintro c1 m a w4 hc1 hch4 hm hn
          obtain ⟨⟨_, e1, _, rfl⟩, -⟩ := hn
          have hz := hch4.cell s1 (fun x => x)
          exact rg_val (v := .slice (some ad) 48 c) (by simp [execOp, go_sem, e1, hz]) rfl hch4 (Chg.refl _ _) rfl
        · rintro c1 m a w4 hc1 hch4 hm hn
          obtain ⟨⟨_, e1, _, rfl⟩, ⟨_, e2, _, rfl⟩, -⟩ := hn
          refine rg_call (f := 159) (args := #[.int .i64 n, .slice (some ad) 48 c]) (by simp [go_sem, e1, e2]) rfl ?_
          have hcv := iSaveSum_any _ (some ad) c n xs w4 (HRD.out.new hch4)
          rw [H48.out] at hcv
          refine hcv.mono ?_
          rintro e w5 ⟨q', rfl, hq', rfl⟩
          exact ⟨_, rfl, hch4, Chg.refl _ _, by rw [hq'.out, HQ.out]; rfl⟩
        · rintro c1 m a w4 hc1 hch4 hm hn
          have e1 : a.tmps[1]?.getD undef = .pointer (some ⟨w.heap.size, 0, none⟩) := hn.1
          exact rg_val (v := .pointer (some ⟨w.heap.size, 2, none⟩)) (by simp [execOp, go_sem, e1]) rfl hch4 (Chg.refl _ _) rfl
        · rintro c1 m a w4 hc1 hch4 hm hn
          obtain ⟨⟨_, e1, _, rfl⟩, -⟩ := hn
          have hz := hch4.cell s2 (fun x => x)
          exact rg_val (v := .int .i64 s) (by simp [execOp, go_sem, e1, hz]) rfl hch4 (Chg.refl _ _) rfl
        · rintro c1 m a w4 hc1 hch4 hm hn
          obtain ⟨⟨_, e1, _, rfl⟩, ⟨_, e2, _, rfl⟩, -⟩ := hn
          exact rg_val (v := .bool (q != s)) (by simp [go_sem, e1, e2]) rfl hch4 (Chg.refl _ _) rfl
        · rintro c1 m a w4 hc1 hch4 hm hn
          obtain ⟨⟨_, e1, _, rfl⟩, ⟨_, e2, _, rfl⟩, -⟩ := hn
          exact rg_val (v := .bool (q != s)) (by simp [execOp, go_sem, e1, e2]) rfl hch4 (Chg.refl _ _) rfl
        rintro m w4 hch4
        simp only [AllVals]
        rintro rv0 - p0 rv1 - p1 rv2 - p2 rv3 - p3 rv4 - p4 rv5 - p5 rv6 - p6 rv7 - p7 rv8 - p8 rv9 - p9 rv10 - p10 rv11 - p11 rv12 - p12
        obtain rfl := p12
        clear p0 p1 p2 p3 p4 p5 p6 p7 p8 p9 p10 p11
        simp only [Act.put, List.setIfInBounds_toArray, List.set_cons_succ, List.set_cons_zero]
        have v0' := hch4.cell v0 (fun x => x)
        have hr4 := HR.out.chg hch4 (fun x => x)
        have r0 : w4.cell? ⟨w.heap.size + 1, 0, none⟩ = some (.slice none 0 0) := (hr4.cell _).trans rfl
        have rf := hr4.frozen 0
        have hBE' : w.heap.size + 1 < BB := hBE
        clear hr4 v0 s0 s1 s2
        by_cases hqs : q = s
        · have hqs' : (q != s) = false := by rw [bne_eq_false_iff_eq]; exact hqs
          have HQS := Lib.hid hqs
          clear hqs
          go_wp2_with fail
          (try simp only [Exit.inBlock, Exit.then])
          refine bodyPost_ret (v := .tuple #[.agg #[.slice (some ⟨g, 0, none⟩) 8 8], .bool true]) (by simp [results, Try.results125, go_sem, *]) rfl ?_
          have hcs : Chg (· = w.heap.size + 1) w4 (w4.setCell ⟨w.heap.size + 1, 0, none⟩ (.slice (some ⟨g, 0, none⟩) 8 8)) := (Chg.refl (· = w.heap.size + 1) w4).setCell (p := ⟨w.heap.size + 1, 0, none⟩) (.inl rfl) _
          have hss : (w4.setCell ⟨w.heap.size + 1, 0, none⟩ (.slice (some ⟨g, 0, none⟩) 8 8)).heap.size = w4.heap.size := by simp [World.setCell]
          refine ⟨some ⟨g, 0, none⟩, 8, T', true, by rw [HTL.out], ?_, Lib.hid ⟨fun _ => ⟨HLX.out, rfl⟩, fun hh => absurd ⟨H48.out, by omega, by omega, HV.out, by rw [HQ.out, HQS.out]⟩ hh⟩, (HC.out.trans hch4).own hcs (Nat.le_succ _)⟩
          have hlt5 := HVV.out.lt
          have hsz4 := hch4.size
          exact ((HOO.out.new hch4).chg hcs (fun i h1 h2 h3 => by omega)).more (by omega) (by rw [hss]; omega)
        · have hqs' : (q != s) = true := by rw [bne_iff_ne]; exact hqs
          have HQS := Lib.hid hqs
          clear hqs
          go_wp2_with fail
          (try simp only [Exit.inBlock, Exit.then])
          refine bodyPost_ret (v := .tuple #[.agg #[.slice none 0 0], .bool false]) (by simp [results, Try.results125, go_sem, *]) rfl ?_
          exact (HNO (fun hh => HQS.out (by rw [← HQ.out]; exact hh.2.2.2.2)) _ ((HC.out.trans hch4).own ((Chg.refl (· = w.heap.size + 1) w4).setCell (p := ⟨w.heap.size + 1, 0, none⟩) (.inl rfl) _) (Nat.le_succ _))).out
      · have HV := Lib.hid hv
        clear hv
        go_wp2_with fail
        refine wp_region_rgg [(3, true)] (WInv := fun _ _ w4 => Chg NoB wo w4) (R := Chg NoB) (Post := ilPost g w.heap.size n s q (some ad) c false) (by kernel_rfl) (by kernel_rfl) (fun p hp v w h => by simp at hp; subst hp; exact h) (fun _ _ _ _ h _ _ => h) (fun i v w1 w2 h _ => ilPost_stab h) ((Chg.refl _ _).drew) ⟨?_, ?_, ?_, ?_, ?_, ?_, ?_, ?_, ?_, ?_, ?_, ?_, ?_, trivial⟩ ?_
        · rintro c1 m a w4 hc1 hch4 hm hn
          have e1 : a.tmps[4]?.getD undef = .pointer (some ⟨w1.heap.size, 0, none⟩) := hn.1
          have hz := hch4.cell v0 (fun x => x)
          exact rg_val (v := .agg #[.slice (some ⟨g, 0, none⟩) 8 8]) (by simp [execOp, go_sem, e1, hz]) rfl hch4 (Chg.refl _ _) rfl
        · rintro c1 m a w4 hc1 hch4 hm hn
          obtain ⟨⟨_, e1, _, rfl⟩, -⟩ := hn
          refine rg_call (f := 17) (args := #[.agg #[.slice (some ⟨g, 0, none⟩) 8 8]]) (by simp [go_sem, e1]) rfl ?_
          have hcv := iTableValid_any _ (some ⟨g, 0, none⟩) 8 (chunks xs) w4 (HTR.out.new hch4)
          rw [chunks_len] at hcv
          refine hcv.mono ?_
          rintro e w5 ⟨r, rfl, hr, hc5⟩
          have hrt : r = false := by cases r; rfl; exact absurd (hr.1 rfl) HV.out
          exact ⟨_, rfl, hch4.trans hc5, hc5, by rw [hrt]; rfl⟩
        · rintro c1 m a w4 hc1 hch4 hm hn
          obtain ⟨⟨_, e1, _, rfl⟩, -⟩ := hn
          exact rg_val (v := .bool true) (by simp [execOp, go_sem, e1]) rfl hch4 (Chg.refl _ _) rfl
        · rintro c1 m a w4 hc1 hch4 hm hn
          obtain ⟨⟨_, e1, _, rfl⟩, -⟩ := hn
          exact rg_val (v := .bool true) (by simp [execOp, go_sem, e1]) rfl hch4 (Chg.refl _ _) rfl
        · exact fun _ _ _ _ h _ => ⟨h, Chg.refl _ _, trivial⟩
        · exact fun _ _ _ _ h _ => ⟨h, Chg.refl _ _, trivial⟩
        · exact fun _ _ _ _ h _ => ⟨h, Chg.refl _ _, trivial⟩
        · exact fun _ _ _ _ h _ => ⟨h, Chg.refl _ _, trivial⟩
        · exact fun _ _ _ _ h _ => ⟨h, Chg.refl _ _, trivial⟩
        · exact fun _ _ _ _ h _ => ⟨h, Chg.refl _ _, trivial⟩
        · exact fun _ _ _ _ h _ => ⟨h, Chg.refl _ _, trivial⟩
        · exact fun _ _ _ _ h _ => ⟨h, Chg.refl _ _, trivial⟩
        · rintro c1 m a w4 hc1 hch4 hm hn
          obtain ⟨⟨_, e1, _, rfl⟩, _, -⟩ := hn
          exact rg_val (v := .bool true) (by simp [execOp, go_sem, e1]) rfl hch4 (Chg.refl _ _) rfl
        rintro m w4 hch4
        simp only [AllVals]
        rintro rv0 - p0 rv1 - p1 rv2 - p2 rv3 - p3 rv4 - p4 rv5 - p5 rv6 - p6 rv7 - p7 rv8 - p8 rv9 - p9 rv10 - p10 rv11 - p11 rv12 - p12
        obtain rfl := p12
        clear p0 p1 p2 p3 p4 p5 p6 p7 p8 p9 p10 p11
        simp only [Act.put, List.setIfInBounds_toArray, List.set_cons_succ, List.set_cons_zero]
        have hr4 := HR.out.chg hch4 (fun x => x)
        have r0 : w4.cell? ⟨w.heap.size + 1, 0, none⟩ = some (.slice none 0 0) := (hr4.cell _).trans rfl
        have rf := hr4.frozen 0
        clear hr4 v0 s0 s1 s2
        go_wp2_with fail
        (try simp only [Exit.inBlock, Exit.then])
        refine bodyPost_ret (v := .tuple #[.agg #[.slice none 0 0], .bool false]) (by simp [results, Try.results125, go_sem, *]) rfl ?_
        exact (HNO (fun hh => HV.out hh.2.2.2.1) _ ((HC.out.trans hch4).own ((Chg.refl (· = w.heap.size + 1) w4).setCell (p := ⟨w.heap.size + 1, 0, none⟩) (.inl rfl) _) (Nat.le_succ _))).out
end Go.Proofs.Ytpiojofmflfkkaa
/- LoadTable of the reference. -/
namespace Go.Proofs.Ytpiojofmflfkkaa
open Go.RowKit
theorem RowsO.chgT {F : Nat → Prop} {w w' : World} {B E : Nat} {T : List RowO} (h : RowsO B E w T) (hc : Chg F w w') (hF : ∀ k cs, Blk w k 3 cs → ¬ F k) : RowsO B E w' T :=
  ⟨fun r hr => (h.1 r hr).chg hc (hF _ _ (h.1 r hr).2.2.1), h.2⟩
theorem own_row_ok {w : World} {B : Nat} {v : Value} {n : Nat} {xs : List Int} (h : w.ownsRow B 3 1 v n (icells xs)) (hl : xs.length = n) (hn : 0 < n) : ∃ g c rest, v = RowO.cell ⟨g, c, xs, rest⟩ ∧ RowO.ok B w.heap.size w ⟨g, c, xs, rest⟩ := by
  obtain ⟨A, c, rfl, hnc, h0 | ⟨g, rest, rfl, hg, hE, hb⟩⟩ := OwnS.of_row h
  · omega
  · exact ⟨g, c, rest, by simp [RowO.cell, hl], hg, hE, hb, by simp only [hl]; exact hnc⟩
def sl1Post (B0 : Nat) (n s q : Int) (A : Option Addr) (c len : Nat) (full : Bool) (i : Nat) : Value → World → Prop :=
  match full with
  | true => (match i with
    | 0 | 7 => fun v _ => v = .pointer (some ⟨B0, 1, none⟩)
    | 1 | 8 => fun v _ => v = .slice A 48 c
    | 2 => fun v _ => v = .int .i64 48
    | 3 | 4 => fun v _ => v = .bool false
    | 5 => fun v _ => v = .pointer (some ⟨B0, 0, none⟩)
    | 6 => fun v _ => v = .int .i64 n
    | 9 => fun v _ => v = .int .i64 q
    | 10 => fun v _ => v = .pointer (some ⟨B0, 2, none⟩)
    | 11 => fun v _ => v = .int .i64 s
    | _ => fun v _ => v = .bool (q != s))
  | false => (match i with
    | 0 => fun v _ => v = .pointer (some ⟨B0, 1, none⟩)
    | 1 => fun v _ => v = .slice A len c
    | 2 => fun v _ => v = .int .i64 len
    | 3 | 4 | 13 => fun v _ => v = .bool true
    | _ => fun _ _ => True)
theorem sl1Post_stab {B0 : Nat} {n s q : Int} {A : Option Addr} {c len : Nat} {full : Bool} {i : Nat} {v : Value} {w1 w2 : World} (h : sl1Post B0 n s q A c len full i v w1) : sl1Post B0 n s q A c len full i v w2 := by
  cases full
  · unfold sl1Post at *
    simp only at *
    split at h <;> exact h
  · unfold sl1Post at *
    simp only at *
    split at h <;> exact h
def smPost (V B0 B : Nat) (u : Value) (ad : Addr) (c f p r : Nat) (ch : List Int) (i : Nat) : Value → World → Prop :=
  match i with
  | 0 | 14 => fun v _ => v = .pointer (some ⟨V, 0, none⟩)
  | 1 => fun v _ => v = u
  | 2 => fun v w => ∃ g, v = .slice (some ⟨g, 0, none⟩) 0 0 ∧ B ≤ g ∧ Blk w g 3 #[]
  | 3 => fun v _ => v = .pointer (some ⟨B0, 1, none⟩)
  | 4 => fun v _ => v = .slice (some ad) 48 c
  | 5 | 7 => fun v _ => v = .int .i64 f
  | 6 => fun v _ => v = .int .i64 (p : Int)
  | 8 => fun v _ => v = .int .i64 ((f : Int) + 1)
  | 9 => fun v _ => v = .int .i64 (r : Int)
  | 10 => fun v _ => v = .slice (some (ad.add p)) 6 (c - p)
  | 11 => fun v w => w.ownsRow B 3 1 v 6 (icells ch)
  | _ => fun _ _ => True
theorem smPost_stab {V B0 B : Nat} {u : Value} {ad : Addr} {c f p r : Nat} {ch : List Int} {i : Nat} {v : Value} {w1 w2 : World} (h : smPost V B0 B u ad c f p r ch i v w1) (hc : Chg (fun k => k < B) w1 w2) : smPost V B0 B u ad c f p r ch i v w2 := by
  unfold smPost at *
  split at h
  all_goals first
    | exact h
    | (obtain ⟨g, h1, h2, h3⟩ := h; exact ⟨g, h1, h2, h3.chg hc (by omega)⟩)
    | exact own_chg1 h hc (fun g _ hg _ hk => by omega)
theorem ty_tab : (3 : Nat) ≠ 31 := by decide
theorem lists_ne : (24 : Nat) ≠ 31 := by decide
set_option maxRecDepth 100000 in
set_option maxHeartbeats 4000000 in
theorem sLoadTable_any (F : Nat → Prop) (n s : Int) (A : Option Addr) (c : Nat) (xs : List Int) (w : World) (h : Rd F w A (icells xs)) (hc : xs.length ≤ c) (hm : c ≤ 9223372036854775807) :
    Calls Try.prog 127 #[.agg #[.int .i64 n, .slice A xs.length c, .int .i64 s]] w (LoadP w n xs s) := by
  obtain ⟨i0, hi, hz0, hz1, hz2⟩ := info_parts info_int
  obtain ⟨j0, hj, hy0, hy1, hy2⟩ := info_parts info_ints'
  obtain ⟨hb1, hb2, hcb⟩ := lit2 w 26 31 #[.int .i64 n, .slice A xs.length c, .int .i64 s] #[.slice none 0 0]
  have HB1 := Lib.hid hb1
  have HB2 := Lib.hid hb2
  have HC0 := Lib.hid hcb
  have HNO : ¬ loadArgs n xs s → ∀ wq, Chg NoB w wq → Hid (LoadP w n xs s (.returned (.tuple #[.agg #[.slice none 0 0], .bool false])) wq) := fun ha wq hq => Lib.hid ⟨none, 0, [], false, rfl, TabO.nil _ _ _ _ _, Lib.hid ⟨fun hh => absurd hh ha, fun _ => ⟨rfl, rfl⟩⟩, hq⟩
  have HCS0 := Lib.hid (show ∀ wq u, Chg NoB w wq → Chg NoB w (wq.setCell ⟨w.heap.size + 1, 0, none⟩ u) from fun wq u hq => hq.own ((Chg.refl (· = w.heap.size + 1) wq).setCell (p := ⟨w.heap.size + 1, 0, none⟩) (.inl rfl) _) (Nat.le_succ _))
  have z0 := (hb1.cell 0).trans (show _ = some (Value.int .i64 n) from rfl)
  have z1 := (hb1.cell 1).trans (show _ = some (Value.slice A xs.length c) from rfl)
  have z2 := (hb1.cell 2).trans (show _ = some (Value.int .i64 s) from rfl)
  have HRD := Lib.hid (h.lt.new hcb)
  clear hb1 hb2 hcb
  go_enter Try.func127, Try.ntmps127
  go_wp2_with fail
  obtain ⟨wb, hwb⟩ : ∃ wb, (w.alloc (.cells #[.int .i64 n, .slice A xs.length c, .int .i64 s] 26)).alloc (.cells #[.slice none 0 0] 31) = wb := ⟨_, rfl⟩
  rw [hwb] at HB1 HB2 HC0 HRD z0 z1 z2 ⊢
  clear hwb
  by_cases h48 : xs.length = 48
  case neg =>
    have H48 := Lib.hid h48
    refine wp_region_rgg [(4, true)] (WInv := fun _ _ w4 => Chg NoB wb w4) (R := Chg NoB) (Post := sl1Post w.heap.size n s 0 A c xs.length false) (by kernel_rfl) (by kernel_rfl) (fun p hp v w h => by simp at hp; subst hp; exact h) (fun _ _ _ _ h _ _ => h) (fun i v w1 w2 h _ => sl1Post_stab h) ((Chg.refl _ _).drew) ⟨?_, ?_, ?_, ?_, ?_, ?_, ?_, ?_, ?_, ?_, ?_, ?_, ?_, ?_, trivial⟩ ?_
    · rintro c1 m a w4 hc1 hch4 hm hn
      have e1 : a.tmps[1]?.getD undef = .pointer (some ⟨w.heap.size, 0, none⟩) := hn.1
      exact rg_val (v := .pointer (some ⟨w.heap.size, 1, none⟩)) (by simp [execOp, go_sem, e1]) rfl hch4 (Chg.refl _ _) rfl
    · rintro c1 m a w4 hc1 hch4 hm hn
      obtain ⟨⟨_, e1, _, rfl⟩, -⟩ := hn
      have hz := hch4.cell z1 (fun x => x)
      exact rg_val (v := .slice A xs.length c) (by simp [execOp, go_sem, e1, hz]) rfl hch4 (Chg.refl _ _) rfl
    · rintro c1 m a w4 hc1 hch4 hm hn
      obtain ⟨⟨_, e1, _, rfl⟩, -⟩ := hn
      exact rg_val (v := .int .i64 xs.length) (by simp [go_sem, e1]) rfl hch4 (Chg.refl _ _) rfl
    · rintro c1 m a w4 hc1 hch4 hm hn
      obtain ⟨⟨_, e1, _, rfl⟩, -⟩ := hn
      exact rg_val (v := .bool true) (by simp [execOp, go_sem, e1]; omega) rfl hch4 (Chg.refl _ _) rfl
    · rintro c1 m a w4 hc1 hch4 hm hn
      obtain ⟨⟨_, e1, _, rfl⟩, -⟩ := hn
      exact rg_val (v := .bool true) (by simp [execOp, go_sem, e1]) rfl hch4 (Chg.refl _ _) rfl
    · exact fun _ _ _ _ h _ => ⟨h, Chg.refl _ _, trivial⟩
    · exact fun _ _ _ _ h _ => ⟨h, Chg.refl _ _, trivial⟩
    · exact fun _ _ _ _ h _ => ⟨h, Chg.refl _ _, trivial⟩
    · exact fun _ _ _ _ h _ => ⟨h, Chg.refl _ _, trivial⟩
    · exact fun _ _ _ _ h _ => ⟨h, Chg.refl _ _, trivial⟩
    · exact fun _ _ _ _ h _ => ⟨h, Chg.refl _ _, trivial⟩
    · exact fun _ _ _ _ h _ => ⟨h, Chg.refl _ _, trivial⟩
    · exact fun _ _ _ _ h _ => ⟨h, Chg.refl _ _, trivial⟩
    · rintro c1 m a w4 hc1 hch4 hm hn
      obtain ⟨⟨_, e1, _, rfl⟩, _, -⟩ := hn
      exact rg_val (v := .bool true) (by simp [execOp, go_sem, e1]) rfl hch4 (Chg.refl _ _) rfl
    rintro m w4 hch4
    simp only [AllVals]
    rintro rv0 - p0 rv1 - p1 rv2 - p2 rv3 - p3 rv4 - p4 rv5 - p5 rv6 - p6 rv7 - p7 rv8 - p8 rv9 - p9 rv10 - p10 rv11 - p11 rv12 - p12 rv13 - p13
    obtain rfl := p13
    clear p0 p1 p2 p3 p4 p5 p6 p7 p8 p9 p10 p11 p12
    simp only [Act.put, List.setIfInBounds_toArray, List.set_cons_succ, List.set_cons_zero]
    have hr4 := HB2.out.chg hch4 (fun x => x)
    have r0 : w4.cell? ⟨w.heap.size + 1, 0, none⟩ = some (.slice none 0 0) := (hr4.cell _).trans rfl
    have rf := hr4.frozen 0
    clear hr4 z0 z1 z2 h48
    go_wp2_with fail
    (try simp only [Exit.inBlock, Exit.then])
    refine bodyPost_ret (v := .tuple #[.agg #[.slice none 0 0], .bool false]) (by simp [results, Try.results127, go_sem, *]) rfl ?_
    exact (HNO (fun hh => H48.out hh.1) _ (HCS0.out _ _ (HC0.out.trans hch4))).out
  have H48 := Lib.hid h48
  obtain ⟨ad, hA0⟩ : ∃ ad, A = some ad := by
    obtain ⟨ad, e, _⟩ := h.at_ (k := 0) (by rw [icells_length, h48]; omega)
    exact ⟨ad, e⟩
  rw [h48] at HB1 z1 ⊢
  have hc48 : 48 ≤ c := by omega
  obtain ⟨q, hq⟩ : ∃ q, saveSum n xs = q := ⟨_, rfl⟩
  have HQ := Lib.hid hq
  clear h48 hq
  refine wp_region_rgg [(4, false)] (WInv := fun _ _ w4 => Chg NoB wb w4) (R := Chg NoB) (Post := sl1Post w.heap.size n s q A c 48 true) (by kernel_rfl) (by kernel_rfl) (fun p hp v w h => by simp at hp; subst hp; exact h) (fun _ _ _ _ h _ _ => h) (fun i v w1 w2 h _ => sl1Post_stab h) ((Chg.refl _ _).drew) ⟨?_, ?_, ?_, ?_, ?_, ?_, ?_, ?_, ?_, ?_, ?_, ?_, ?_, ?_, trivial⟩ ?_
  · rintro c1 m a w4 hc1 hch4 hm hn
    have e1 : a.tmps[1]?.getD undef = .pointer (some ⟨w.heap.size, 0, none⟩) := hn.1
    exact rg_val (v := .pointer (some ⟨w.heap.size, 1, none⟩)) (by simp [execOp, go_sem, e1]) rfl hch4 (Chg.refl _ _) rfl
  · rintro c1 m a w4 hc1 hch4 hm hn
    obtain ⟨⟨_, e1, _, rfl⟩, -⟩ := hn
    have hz := hch4.cell z1 (fun x => x)
    exact rg_val (v := .slice A 48 c) (by simp [execOp, go_sem, e1, hz]) rfl hch4 (Chg.refl _ _) rfl
  · rintro c1 m a w4 hc1 hch4 hm hn
    obtain ⟨⟨_, e1, _, rfl⟩, -⟩ := hn
    exact rg_val (v := .int .i64 48) (by simp [go_sem, e1]) rfl hch4 (Chg.refl _ _) rfl
  · rintro c1 m a w4 hc1 hch4 hm hn
    obtain ⟨⟨_, e1, _, rfl⟩, -⟩ := hn
    exact rg_val (v := .bool false) (by simp [go_sem, e1]) rfl hch4 (Chg.refl _ _) rfl
  · rintro c1 m a w4 hc1 hch4 hm hn
    obtain ⟨⟨_, e1, _, rfl⟩, -⟩ := hn
    exact rg_val (v := .bool false) (by simp [execOp, go_sem, e1]) rfl hch4 (Chg.refl _ _) rfl
  · rintro c1 m a w4 hc1 hch4 hm hn
    have e1 : a.tmps[1]?.getD undef = .pointer (some ⟨w.heap.size, 0, none⟩) := hn.1
    exact rg_val (v := .pointer (some ⟨w.heap.size, 0, none⟩)) (by simp [execOp, go_sem, e1]) rfl hch4 (Chg.refl _ _) rfl
  · rintro c1 m a w4 hc1 hch4 hm hn
    obtain ⟨⟨_, e1, _, rfl⟩, -⟩ := hn
    have hz := hch4.cell z0 (fun x => x)
    exact rg_val (v := .int .i64 n) (by simp [execOp, go_sem, e1, hz]) rfl hch4 (Chg.refl _ _) rfl
  · rintro c1 m a w4 hc1 hch4 hm hn
    have e1 : a.tmps[1]?.getD undef = .pointer (some ⟨w.heap.size, 0, none⟩) := hn.1
    exact rg_val (v := .pointer (some ⟨w.heap.size, 1, none⟩)) (by simp [execOp, go_sem, e1]) rfl hch4 (Chg.refl _ _) rfl
  · rintro c1 m a w4 hc1 hch4 hm hn
    obtain ⟨⟨_, e1, _, rfl⟩, -⟩ := hn
    have hz := hch4.cell z1 (fun x => x)
    exact rg_val (v := .slice A 48 c) (by simp [execOp, go_sem, e1, hz]) rfl hch4 (Chg.refl _ _) rfl
  · rintro c1 m a w4 hc1 hch4 hm hn
    obtain ⟨⟨_, e1, _, rfl⟩, ⟨_, e2, _, rfl⟩, -⟩ := hn
    refine rg_call (f := 157) (args := #[.int .i64 n, .slice A 48 c]) (by simp [go_sem, e1, e2]) rfl ?_
    have hcv := sSaveSum_any _ A c n xs w4 (HRD.out.new hch4)
    rw [H48.out] at hcv
    refine hcv.mono ?_
    rintro e w5 ⟨q', rfl, hq', rfl⟩
    exact ⟨_, rfl, hch4, Chg.refl _ _, by rw [hq'.out, HQ.out]; rfl⟩
  · rintro c1 m a w4 hc1 hch4 hm hn
    have e1 : a.tmps[1]?.getD undef = .pointer (some ⟨w.heap.size, 0, none⟩) := hn.1
    exact rg_val (v := .pointer (some ⟨w.heap.size, 2, none⟩)) (by simp [execOp, go_sem, e1]) rfl hch4 (Chg.refl _ _) rfl
  · rintro c1 m a w4 hc1 hch4 hm hn
    obtain ⟨⟨_, e1, _, rfl⟩, -⟩ := hn
    have hz := hch4.cell z2 (fun x => x)
    exact rg_val (v := .int .i64 s) (by simp [execOp, go_sem, e1, hz]) rfl hch4 (Chg.refl _ _) rfl
  · rintro c1 m a w4 hc1 hch4 hm hn
    obtain ⟨⟨_, e1, _, rfl⟩, ⟨_, e2, _, rfl⟩, -⟩ := hn
    exact rg_val (v := .bool (q != s)) (by simp [go_sem, e1, e2]) rfl hch4 (Chg.refl _ _) rfl
  · rintro c1 m a w4 hc1 hch4 hm hn
    obtain ⟨⟨_, e1, _, rfl⟩, ⟨_, e2, _, rfl⟩, -⟩ := hn
    exact rg_val (v := .bool (q != s)) (by simp [execOp, go_sem, e1, e2]) rfl hch4 (Chg.refl _ _) rfl
  rintro m w4 hch4
  simp only [AllVals]
  rintro rv0 - p0 rv1 - p1 rv2 - p2 rv3 - p3 rv4 - p4 rv5 - p5 rv6 - p6 rv7 - p7 rv8 - p8 rv9 - p9 rv10 - p10 rv11 - p11 rv12 - p12 rv13 - p13
  obtain rfl := p13
  clear p0 p1 p2 p3 p4 p5 p6 p7 p8 p9 p10 p11 p12
  simp only [Act.put, List.setIfInBounds_toArray, List.set_cons_succ, List.set_cons_zero]
  have hr4 := HB2.out.chg hch4 (fun x => x)
  have r0 : w4.cell? ⟨w.heap.size + 1, 0, none⟩ = some (.slice none 0 0) := (hr4.cell _).trans rfl
  have rf := hr4.frozen 0
  by_cases hqs : q = s
  case neg =>
    have hqs' : (q != s) = true := by rw [bne_iff_ne]; exact hqs
    have HQS := Lib.hid hqs
    clear hqs hr4 z0 z1 z2
    go_wp2_with fail
    (try simp only [Exit.inBlock, Exit.then])
    refine bodyPost_ret (v := .tuple #[.agg #[.slice none 0 0], .bool false]) (by simp [results, Try.results127, go_sem, *]) rfl ?_
    exact (HNO (fun hh => HQS.out (by rw [← HQ.out]; exact hh.2.2.2.2)) _ (HCS0.out _ _ (HC0.out.trans hch4))).out
  have hqs' : (q != s) = false := by rw [bne_eq_false_iff_eq]; exact hqs
  simp only [hqs']
  have HQS := Lib.hid hqs
  have z0 := hch4.cell z0 (fun x => x)
  have z1 := hch4.cell z1 (fun x => x)
  have z2 := hch4.cell z2 (fun x => x)
  have HC4 := Lib.hid (HC0.out.trans hch4)
  have HR4 := Lib.hid hr4
  have HS4 := Lib.hid (HB1.out.chg hch4 (fun x => x))
  have HRD4 := Lib.hid (HRD.out.new hch4)
  clear hqs hr4 hch4 z0 z1 z2
  have HV0 := Lib.hid (Blk.new w4 31 #[.slice none 0 0])
  have hca4 := (Chg.refl NoB w4).alloc (.cells #[.slice none 0 0] 31)
  have HC5 := Lib.hid (HC4.out.trans hca4)
  have HR5 := Lib.hid (HR4.out.chg hca4 (fun x => x))
  have HS5 := Lib.hid (HS4.out.chg hca4 (fun x => x))
  have HRD5 := Lib.hid (HRD4.out.new hca4)
  have hV1 : w.heap.size + 1 < w4.heap.size := HR4.out.lt
  clear hca4
  go_wp2
  obtain ⟨V, hV⟩ : ∃ V, w4.heap.size = V := ⟨_, rfl⟩
  rw [hV] at hV1 HV0 ⊢
  have hVs : (w4.alloc (.cells #[.slice none 0 0] 31)).heap.size = V + 1 := by rw [World.size_alloc, hV]
  clear hV HC4 HR4 HS4 HRD4 HRD
  go_loopw [5] (fun i wr => ∃ (f : Nat) (u : Value) (T : List RowO), f ≤ 8 ∧ i = .int .i64 f ∧ Chg NoB w wr ∧ Blk wr w.heap.size 26 #[.int .i64 n, .slice A 48 c, .int .i64 s] ∧ Blk wr (w.heap.size + 1) 31 #[.slice none 0 0] ∧ Blk wr V 31 #[u] ∧ wr.ownsRow (V + 1) 24 1 u f (T.map RowO.cell) ∧ RowsO (V + 1) wr.heap.size wr T ∧ Hid (listsOf T = (chunks xs).take f) ∧ V < wr.heap.size) (fun i _ => 8 - (intOf i).toNat)
  case atStart => exact ⟨0, .slice none 0 0, [], Nat.zero_le _, rfl, HC5.out, HS5.out, HR5.out, HV0.out, World.ownsRow_nil _ _ _ _, RowsO.nil _ _ _, Lib.hid rfl, by rw [hVs]; omega⟩
  case round =>
    obtain ⟨wo, rfl⟩ : ∃ wo, wo = wr := ⟨_, rfl⟩
    obtain ⟨f, u, T, hf8, rfl, hch, hbs, hbr, hbv, hou, hrows, hT, hVB⟩ := hrel
    have hTl : T.length = f := by have := congrArg List.length hT.out; rw [listsOf_length, List.length_take, chunks_len] at this; omega
    have HC := Lib.hid hch
    have HS := Lib.hid hbs
    have HR := Lib.hid hbr
    have HVV := Lib.hid hbv
    have HOU := Lib.hid hou
    have HRW := Lib.hid hrows
    have s1 : wo.cell? ⟨w.heap.size, 1, none⟩ = some (.slice A 48 c) := (hbs.cell _).trans rfl
    by_cases hlt : f < 8
    · subst hA0
      have HF1 := Lib.hid (show ¬ ((⟨w.heap.size, 1, none⟩ : Addr).block = V ∨ some (⟨w.heap.size, 1, none⟩ : Addr).block = u.ownBlock) from fun hh => by
        rcases hh with h1 | h1
        · simp only at h1; omega
        · have := (hou.lt _ h1.symm).1; simp only at this; omega)
      have HU := Lib.hid (show ∀ k, some k = u.ownBlock → k < wo.heap.size from fun k hk => (hou.lt _ hk.symm).2)
      have hsrc : Rd (fun i => F i ∧ i < w.heap.size) wo (some (ad.add (f * 6))) (icells (chunk xs f)) := by
        rw [Nat.mul_comm f 6]
        have h1 := rd_front (rd_drop (h.lt.new hch) (6 * f)) 6
        unfold chunk icells
        unfold icells at h1
        rw [List.map_take, List.map_drop]
        exact h1
      have HF2 := Lib.hid (show ∀ k, (F k ∧ k < w.heap.size) → ¬ (k = V ∨ some k = u.ownBlock) from fun k hk hh => by
        rcases hh with h1 | h1
        · omega
        · have := (hou.lt _ h1.symm).1; omega)
      have hchl := Lib.hid (show (icells (chunk xs f)).length = 6 * 1 by rw [icells_length, chunk_len H48.out hlt])
      obtain ⟨p, hp⟩ : ∃ p, f * 6 = p := ⟨_, rfl⟩
      obtain ⟨r, hr⟩ : ∃ r, p + 6 = r := ⟨_, rfl⟩
      rw [hp] at hsrc
      have HSRC := Lib.hid hsrc
      have HP := Lib.hid hp
      have HR6 := Lib.hid hr
      have t0 : r ≤ 48 := by omega
      have t1 : (p : Int) ≤ max (r : Int) 0 := by omega
      have t2 : (r : Int) ≤ (c : Int) := by omega
      have t3 : ¬ c = p := by omega
      have t4 : r - p = 6 := by omega
      have t5 : ((f : Int) * 6) = (p : Int) := by omega
      have t6 : (((f : Int) + 1) * 6) = (r : Int) := by omega
      have TT := Lib.hid (show r ≤ 48 ∧ (p : Int) ≤ max (r : Int) 0 ∧ (r : Int) ≤ (c : Int) ∧ ¬ c = p ∧ r - p = 6 ∧ ((f : Int) * 6) = (p : Int) ∧ (((f : Int) + 1) * 6) = (r : Int) from ⟨t0, t1, t2, t3, t4, t5, t6⟩)
      clear hp hr t0 t1 t2 t3 t4 t5 t6
      clear hch hbs hbr hbv hou hrows hsrc
      go_wp2_with fail
      refine wp_region_rg (WInv := fun _ m w5 => NestI w wo 31 24 V (V + 1) wo.heap.size u f (T.map RowO.cell) 1 11 12 13 15 m w5) (R := Chg (fun k => k < wo.heap.size)) (Post := smPost V w.heap.size wo.heap.size u ad c f p r (chunk xs f)) (by kernel_rfl) (by kernel_rfl) (fun _ _ _ _ h _ _ => h) (fun i v w1 w2 h hc => smPost_stab h hc) (NestI.start (HC.out.drew) ((Chg.refl _ _).drew) (own_chg1 HOU.out ((Chg.refl NoB wo).drew) (fun _ _ _ _ x => x)) (HVV.out.chg ((Chg.refl NoB wo).drew) (fun x => x))) ?_ ?_
      · refine ⟨?_, ?_, ?_, ?_, ?_, ?_, ?_, ?_, ?_, ?_, ?_, ?_, ?_, ?_, ?_, ?_, trivial⟩
        · rintro c1 m a w5 hc1 hN hm hn
          have e1 : a.tmps[4]?.getD undef = .pointer (some ⟨V, 0, none⟩) := hn.1
          exact rg_val (v := .pointer (some ⟨V, 0, none⟩)) (by simp [execOp, go_sem, e1]) rfl (hN.keep hm (by decide) (by decide) (by decide) (Chg.refl _ _)) (Chg.refl _ _) rfl
        · rintro c1 m a w5 hc1 hN hm hn
          obtain ⟨⟨_, e1, _, rfl⟩, -⟩ := hn
          have hz : w5.cell? ⟨V, 0, none⟩ = some u := ((hN.load hm).cell _).trans rfl
          exact rg_val (v := u) (by simp [execOp, go_sem, e1, hz]) rfl (hN.keep hm (by decide) (by decide) (by decide) (Chg.refl _ _)) (Chg.refl _ _) rfl
        · rintro c1 m a w5 hc1 hN hm hn
          have hca : Chg NoB w5 (w5.alloc (.cells #[] 3)) := (Chg.refl _ _).alloc _
          exact rg_val (v := .slice (some ⟨w5.heap.size, 0, none⟩) 0 0) (w' := w5.alloc (.cells #[] 3)) (by simp [execOp, go_sem]) rfl (hN.keep hm (by decide) (by decide) (by decide) hca) (hca.mono (fun _ _ x => x.elim)) ⟨_, rfl, hN.chg.size, Blk.new _ _ _⟩
        · rintro c1 m a w5 hc1 hN hm hn
          have e1 : a.tmps[1]?.getD undef = .pointer (some ⟨w.heap.size, 0, none⟩) := hn.1
          exact rg_val (v := .pointer (some ⟨w.heap.size, 1, none⟩)) (by simp [execOp, go_sem, e1]) rfl (hN.keep hm (by decide) (by decide) (by decide) (Chg.refl _ _)) (Chg.refl _ _) rfl
        · rintro c1 m a w5 hc1 hN hm hn
          obtain ⟨⟨_, e1, _, rfl⟩, -⟩ := hn
          have hz := hN.chg.cell s1 HF1.out
          exact rg_val (v := .slice (some ad) 48 c) (by simp [execOp, go_sem, e1, hz]) rfl (hN.keep hm (by decide) (by decide) (by decide) (Chg.refl _ _)) (Chg.refl _ _) rfl
        · rintro c1 m a w5 hc1 hN hm hn
          have e1 : a.tmps[5]?.getD undef = .int .i64 (f : Int) := hn.1
          exact rg_val (v := .int .i64 (f : Int)) (by simp [execOp, go_sem, e1]) rfl (hN.keep hm (by decide) (by decide) (by decide) (Chg.refl _ _)) (Chg.refl _ _) rfl
        · rintro c1 m a w5 hc1 hN hm hn
          obtain ⟨⟨_, e1, _, rfl⟩, -⟩ := hn
          have t5 := TT.out.2.2.2.2.2.1
          exact rg_val (v := .int .i64 (p : Int)) (by simp [execOp, go_sem, e1, t5]; rw [IntKind.wrap_i64]; omega) rfl (hN.keep hm (by decide) (by decide) (by decide) (Chg.refl _ _)) (Chg.refl _ _) rfl
        · rintro c1 m a w5 hc1 hN hm hn
          have e1 : a.tmps[5]?.getD undef = .int .i64 (f : Int) := hn.1
          exact rg_val (v := .int .i64 (f : Int)) (by simp [execOp, go_sem, e1]) rfl (hN.keep hm (by decide) (by decide) (by decide) (Chg.refl _ _)) (Chg.refl _ _) rfl
        · rintro c1 m a w5 hc1 hN hm hn
          obtain ⟨⟨_, e1, _, rfl⟩, -⟩ := hn
          exact rg_val (v := .int .i64 ((f : Int) + 1)) (by simp [execOp, go_sem, e1]; rw [IntKind.wrap_i64]; omega) rfl (hN.keep hm (by decide) (by decide) (by decide) (Chg.refl _ _)) (Chg.refl _ _) rfl
        · rintro c1 m a w5 hc1 hN hm hn
          obtain ⟨⟨_, e1, _, rfl⟩, -⟩ := hn
          have t0 := TT.out.1
          have t6 := TT.out.2.2.2.2.2.2
          exact rg_val (v := .int .i64 (r : Int)) (by simp [execOp, go_sem, e1, t6]; rw [IntKind.wrap_i64]; omega) rfl (hN.keep hm (by decide) (by decide) (by decide) (Chg.refl _ _)) (Chg.refl _ _) rfl
        · rintro c1 m a w5 hc1 hN hm hn
          obtain ⟨⟨_, e1, _, rfl⟩, ⟨_, e2, _, rfl⟩, ⟨_, e3, _, rfl⟩, -⟩ := hn
          obtain ⟨t0, -, t2, t3, t4, -, -⟩ := TT.out
          exact rg_val (v := .slice (some (ad.add p)) 6 (c - p)) (by simp [execOp, go_sem, e1, e2, e3, t2, t3, t4]; exact fun hh => absurd hh (by omega)) rfl (hN.keep hm (by decide) (by decide) (by decide) (Chg.refl _ _)) (Chg.refl _ _) rfl
        · rintro c1 m a w5 hc1 hN hm hn
          obtain ⟨⟨_, e1, _, g0, rfl, hg0, hbl⟩, ⟨_, e2, _, rfl⟩, -⟩ := hn
          obtain ⟨v', w6, hr, ho, hc6, hne⟩ := run_append_fresh (P := Try.prog) w5 wo.heap.size 24 24 3 i0 (.int .i64 0) 1 8 Try.underlying24 hi hz0 hz1 hz2 rfl (by decide) g0 hg0 hbl (some (ad.add p)) 6 (c - p) (icells (chunk xs f)) (by rw [hchl.out]) (HSRC.out.chg hN.chg (fun k hk => HF2.out k hk)) (by simp only [maxLen]; omega) (by omega) hN.chg.size
          exact rg_val (v := v') (w' := w6) (exec_append (.tmp 28) (.tmp 36) 24 rfl (by simpa [Act.eval] using e1) (by simpa [Act.eval] using e2) hr) rfl (hN.keep hm (by decide) (by decide) (by decide) hc6) (hc6.mono (fun _ _ x => x.elim)) ho
        · rintro c1 m a w5 hc1 hN hm hn
          obtain ⟨⟨rv, e1, hmr, ho⟩, -⟩ := hn
          obtain ⟨Ar, cr, rfl, _⟩ := own_rd ho
          have hca : Chg NoB w5 (w5.alloc (.cells #[.slice Ar 6 cr] 24)) := (Chg.refl _ _).alloc _
          exact rg_val (v := .slice (some ⟨w5.heap.size, 0, none⟩) 1 1) (w' := w5.alloc (.cells #[.slice Ar 6 cr] 24)) (by simp [execOp, go_sem, e1]) rfl (hN.lay hmr (by decide) (by decide) (by decide) (by decide) hm hca hN.chg.size (Blk.new _ _ _) rfl) (hca.mono (fun _ _ x => x.elim)) trivial
        · rintro c1 m a w5 hc1 hN hm hn
          obtain ⟨⟨_, e1, hm1, rfl⟩, ⟨_, e2, hmb, _⟩, -⟩ := hn
          obtain ⟨rv, b, hmr, rfl, hB, hbl, h1c⟩ := hN.elem _ hmb
          have hou := hN.app.1 hm
          obtain ⟨v', w6, hr, ho, hgr, hne⟩ := run_append_rd (P := Try.prog) w5 (V + 1) 29 29 24 j0 (.slice none 0 0) 1 24 Try.underlying29 hj hy0 hy1 hy2 rfl (by decide) _ f (T.map RowO.cell) hou (some ⟨b, 0, none⟩) 1 1 [rv] rfl hbl.rd (fun x hx => by simp at hx; subst hx; exact h1c) (by simp only [maxLen]; omega) (by omega) (by have := hN.chg.size; omega)
          exact rg_val (v := v') (w' := w6) (exec_append (.tmp 27) (.tmp 38) 29 rfl (by simpa [Act.eval] using e1) (by simpa [Act.eval] using e2) hr) rfl (hN.append hm hmr (by rw [hm1]; simp) (by decide) (by decide) (by decide) (by decide) lists_ne (by omega) HU.out hgr ho) ((chg_row hgr).mono fun k _ hk => HU.out k hk) trivial
        · rintro c1 m a w5 hc1 hN hm hn
          have e1 : a.tmps[4]?.getD undef = .pointer (some ⟨V, 0, none⟩) := hn.1
          exact rg_val (v := .pointer (some ⟨V, 0, none⟩)) (by simp [execOp, go_sem, e1]) rfl (hN.keep hm (by decide) (by decide) (by decide) (Chg.refl _ _)) (Chg.refl _ _) rfl
        · rintro c1 m a w5 hc1 hN hm hn
          obtain ⟨⟨_, e1, _, rfl⟩, ⟨v', e2, hma, _⟩, -⟩ := hn
          obtain ⟨news, ⟨rv, hmr, rfl⟩, ho⟩ := hN.app.2 _ hma
          obtain ⟨A5, c5, rfl, _⟩ := own_rd ho
          have hb := hN.var.ready hm
          have f0 := hb.frozen 0
          have x0 : w5.cell? ⟨V, 0, none⟩ = some u := (hb.cell _).trans rfl
          obtain ⟨Au, cu, hu5, _⟩ := own_rd HOU.out
          rw [hu5] at x0
          have hcs : Chg (· = V) w5 (w5.setCell ⟨V, 0, none⟩ (.slice A5 (f + 1) c5)) := (Chg.refl (· = V) w5).setCell (p := ⟨V, 0, none⟩) (.inl rfl) _
          exact rg_skip (w' := w5.setCell ⟨V, 0, none⟩ (.slice A5 (f + 1) c5)) (by simp [execOp, go_sem, e1, e2, x0, f0]) rfl (hN.store hma (by decide) (by decide) (by decide) (by decide) lists_ne (by omega) hVB hcs hb (hb.set_ 0 _)) (hcs.mono fun k _ hk => by rw [hk]; exact hVB) trivial
      · skip
        rintro m w5 hN
        simp only [AllVals]
        rintro rv0 m0 p0 rv1 m1 p1 rv2 m2 p2 rv3 m3 p3 rv4 m4 p4 rv5 m5 p5 rv6 m6 p6 rv7 m7 p7 rv8 m8 p8 rv9 m9 p9 rv10 m10 p10 rv11 m11 p11 rv12 m12 p12 rv13 m13 p13 rv14 m14 p14 rv15 m15 p15
        obtain ⟨hb5, ho5⟩ := hN.done m13 m15 m11
        have hrow := own_row_ok (p11 : w5.ownsRow wo.heap.size 3 1 rv11 6 (icells (chunk xs f))) (chunk_len H48.out hlt) (by omega)
        obtain ⟨g6, c6, rest6, hrv, hok6⟩ := hrow
        have HN := Lib.hid hN
        have HB5 := Lib.hid hb5
        have HO5 := Lib.hid ho5
        have HOK6 := Lib.hid hok6
        have HRV := Lib.hid hrv
        clear p0 p1 p2 p3 p4 p5 p6 p7 p8 p9 p10 p11 p12 p13 p14 p15 hN hb5 ho5 hok6 hrv
        simp only [Act.put, List.setIfInBounds_toArray, List.set_cons_succ, List.set_cons_zero]
        go_wp2_with fail
        go_roundw
        case rel =>
          have hc5 := HN.out.chg
          obtain ⟨A5, c5, hv5, _⟩ := own_rd HO5.out
          have hb5 := HB5.out
          rw [hv5] at hb5
          refine ⟨f + 1, rv13, T ++ [⟨g6, c6, chunk xs f, rest6⟩], by omega, by go_num, HN.out.chg0, HS.out.chg hc5 HF1.out, HR.out.chg hc5 ?_, by rw [hv5]; exact hb5, ?_, ?_, Lib.hid ?_, by have := hc5.size; omega⟩
          · rintro (h1 | h1)
            · omega
            · have := (HOU.out.lt _ h1.symm).1; omega
          · rw [cells_snoc', ← HRV.out]; exact HO5.out
          · have h1 := (HRW.out.chgT hc5 (fun k cs hk hh => by
              rcases hh with h2 | h2
              · subst h2; exact ty_tab (hk.sameTy HVV.out)
              · exact own_ne_box HOU.out hk (Ne.symm ty_ne) h2))
            exact (h1.snoc ⟨by have h6 : wo.heap.size ≤ g6 := HOK6.out.1; show V + 1 ≤ g6; omega, HOK6.out.2⟩ HOK6.out.1)
          · rw [lists_snoc, hT.out, List.take_succ_eq_append_getElem (by rw [chunks_len]; exact hlt), chunks_get]
        case measure => simp [intOf]; omega
    · obtain rfl : f = 8 := by omega
      obtain ⟨A8, c8, rfl, ho8⟩ := OwnS.of_row hou
      have hX : listsOf T = chunks xs := by rw [hT.out]; exact List.take_of_length_le (by rw [chunks_len]; omega)
      have hTO : TabO (V + 1) wo.heap.size wo A8 c8 T := ⟨by rw [hTl]; exact ho8, hrows⟩
      have hTR := hTO.reads
      rw [hX] at hTR
      have HX := Lib.hid hX
      have HTL := Lib.hid hTl
      have HTO := Lib.hid hTO
      have HTR := Lib.hid hTR
      clear hX hTl hTO hTR ho8 hrows hou hT HOU HRW s1
      have v0 : wo.cell? ⟨V, 0, none⟩ = some (.slice A8 8 c8) := (hbv.cell _).trans rfl
      have HCV := Lib.hid hch
      clear hch hbs hbr hbv
      go_wp2_with fail
      have hcv := sTableValid_any _ A8 c8 (chunks xs) wo HTR.out (by rw [chunks_len]; omega) (fun r hr => by
        obtain ⟨k, hk, rfl⟩ := List.getElem_of_mem hr
        rw [chunks_len] at hk
        rw [chunks_get, chunk_len H48.out hk]; omega)
      rw [chunks_len] at hcv
      refine hcv.mono ?_
      rintro e w6 ⟨rb, rfl, hrb, hc6⟩
      have HRB := Lib.hid hrb
      have HC6 := Lib.hid hc6
      have s2 : w6.cell? ⟨w.heap.size, 2, none⟩ = some (.int .i64 s) := ((HS.out.chg hc6 (fun x => x)).cell _).trans rfl
      have v0 := hc6.cell v0 (fun x => x)
      have hr6 := HR.out.chg hc6 (fun x => x)
      have r0 : w6.cell? ⟨w.heap.size + 1, 0, none⟩ = some (.slice none 0 0) := (hr6.cell _).trans rfl
      have rf := hr6.frozen 0
      clear hrb hc6 hr6 hcv
      cases rb
      · go_wp2_with fail
        (try simp only [Exit.inBlock, Exit.then])
        refine bodyPost_ret (v := .tuple #[.agg #[.slice none 0 0], .bool false]) (by simp [results, Try.results127, go_sem, *]) rfl ?_
        exact (HNO (fun hh => absurd (HRB.out.2 hh.2.2.2.1) (by simp)) _ (HCS0.out _ _ (HCV.out.trans HC6.out))).out
      · by_cases hs0 : s < 0
        · have HS0 := Lib.hid hs0
          go_wp2_with fail
          (try simp only [Exit.inBlock, Exit.then])
          refine bodyPost_ret (v := .tuple #[.agg #[.slice none 0 0], .bool false]) (by simp [results, Try.results127, go_sem, *]) rfl ?_
          refine (HNO (fun hh => ?_) _ (HCS0.out _ _ (HCV.out.trans HC6.out))).out
          have h1 := flat_sumArgs (n := n) ⟨hh.2.2.2.1, hh.2.1, hh.2.2.1⟩
          rw [chunks_flat H48.out] at h1
          have h2 := hh.2.2.2.2
          rw [saveSum_t h1] at h2
          have := (sumTo_range n xs).1
          have := HS0.out
          omega
        · have HS0 := Lib.hid hs0
          go_wp2_with fail
          (try simp only [Exit.inBlock, Exit.then])
          refine bodyPost_ret (v := .tuple #[.agg #[.slice A8 8 c8], .bool true]) (by simp [results, Try.results127, go_sem, *]) rfl ?_
          have hq : saveSum n xs = s := by rw [HQ.out, HQS.out]
          have hargs : sumArgs n xs := by
            refine Classical.byContradiction fun hh => ?_
            rw [saveSum_f hh] at hq
            have := HS0.out
            omega
          have hcs : Chg (· = w.heap.size + 1) w6 (w6.setCell ⟨w.heap.size + 1, 0, none⟩ (.slice A8 8 c8)) := (Chg.refl (· = w.heap.size + 1) w6).setCell (p := ⟨w.heap.size + 1, 0, none⟩) (.inl rfl) _
          refine ⟨A8, c8, T, true, by rw [HTL.out], ?_, Lib.hid ⟨fun _ => ⟨HX.out, rfl⟩, fun hh => absurd ⟨H48.out, hargs.1, hargs.2.1, HRB.out.1 trivial, hq⟩ hh⟩, HCS0.out _ _ (HCV.out.trans HC6.out)⟩
          have hsz := HC6.out.size
          have hss : (w6.setCell ⟨w.heap.size + 1, 0, none⟩ (.slice A8 8 c8)).heap.size = w6.heap.size := World.size_setCell _ _ _
          exact ((HTO.out.new HC6.out).chg hcs (fun i h1 h2 h3 => by omega)).more (by omega) (by rw [hss]; omega)
end Go.Proofs.Ytpiojofmflfkkaa
/- l7Copy of the reference: a table copied row by row. -/
namespace Go.Proofs.Ytpiojofmflfkkaa
open Go.RowKit
def cyPost (V B0 B : Nat) (u : Value) (ad : Addr) (c f : Nat) (Br : Option Addr) (cr : Nat) (ch : List Int) (i : Nat) : Value → World → Prop :=
  match i with
  | 0 | 11 => fun v _ => v = .pointer (some ⟨V, 0, none⟩)
  | 1 => fun v _ => v = u
  | 2 => fun v w => ∃ g, v = .slice (some ⟨g, 0, none⟩) 0 0 ∧ B ≤ g ∧ Blk w g 3 #[]
  | 3 => fun v _ => v = .pointer (some ⟨B0, 0, none⟩)
  | 4 => fun v _ => v = .slice (some ad) 8 c
  | 5 => fun v _ => v = .int .i64 f
  | 6 => fun v _ => v = .pointer (some (ad.add f))
  | 7 => fun v _ => v = .slice Br 6 cr
  | 8 => fun v w => w.ownsRow B 3 1 v 6 (icells ch)
  | _ => fun _ _ => True
theorem cyPost_stab {V B0 B : Nat} {u : Value} {ad : Addr} {c f : Nat} {Br : Option Addr} {cr : Nat} {ch : List Int} {i : Nat} {v : Value} {w1 w2 : World} (h : cyPost V B0 B u ad c f Br cr ch i v w1) (hc : Chg (fun k => k < B) w1 w2) : cyPost V B0 B u ad c f Br cr ch i v w2 := by
  unfold cyPost at *
  split at h
  all_goals first
    | exact h
    | (obtain ⟨g, h1, h2, h3⟩ := h; exact ⟨g, h1, h2, h3.chg hc (by omega)⟩)
    | exact own_chg1 h hc (fun g _ hg _ hk => by omega)
set_option maxRecDepth 100000 in
set_option maxHeartbeats 4000000 in
theorem l7Copy_any (F : Nat → Prop) (A : Option Addr) (c : Nat) (X : List (List Int)) (w : World) (h : TabR F w A X) (hX : tabOk X) :
    Calls Try.prog 80 #[.agg #[.slice A X.length c]] w fun e w' => ∃ A' c' T, e = .returned (.agg #[.slice A' 8 c']) ∧ listsOf T = X ∧ Chg NoB w w' ∧ TabO w.heap.size w'.heap.size w' A' c' T := by
  obtain ⟨i0, hi, hz0, hz1, hz2⟩ := info_parts info_int
  obtain ⟨j0, hj, hy0, hy1, hy2⟩ := info_parts info_ints'
  obtain ⟨hb1, hb2, hcb⟩ := lit2 w 31 31 #[.slice A X.length c] #[.slice none 0 0]
  have h8 := hX.1
  rw [h8] at hb1 hb2 hcb ⊢
  obtain ⟨wb, hwb⟩ : ∃ wb, (w.alloc (.cells #[.slice A 8 c] 31)).alloc (.cells #[.slice none 0 0] 31) = wb := ⟨_, rfl⟩
  rw [hwb] at hb1 hb2 hcb
  have hsz : wb.heap.size = w.heap.size + 1 + 1 := by rw [← hwb]; simp [World.size_alloc]
  have hca := (Chg.refl NoB wb).alloc (.cells #[.slice none 0 0] 31)
  have hbV := Blk.new wb 31 #[.slice none 0 0]
  have HSW := Lib.hid hsz
  have HS5 := Lib.hid (hb1.chg hca (fun x => x))
  have HR5 := Lib.hid (hb2.chg hca (fun x => x))
  have HV0 := Lib.hid hbV
  have HC5 := Lib.hid (hcb.trans hca)
  have HSZ := Lib.hid (show (wb.alloc (.cells #[.slice none 0 0] 31)).heap.size = wb.heap.size + 1 by rw [World.size_alloc])
  have HWB := Lib.hid hwb
  clear hb1 hb2 hcb hca hbV hsz hwb
  have HX := Lib.hid hX
  clear hX
  go_enter Try.func80, Try.ntmps80
  go_wp2
  rw [HWB.out]
  have hV2 := HSW.out
  have hZ := HSZ.out
  obtain ⟨V, hV⟩ : ∃ V, wb.heap.size = V := ⟨_, rfl⟩
  have hV1 : w.heap.size + 1 < V := by omega
  rw [hV] at HV0 hZ
  (try rw [show w.heap.size + 1 + 1 = V by omega])
  (try rw [hV])
  replace HSZ := Lib.hid hZ
  clear hV hV2 hZ HSW HWB
  go_loopw [4] (fun i wr => ∃ (f : Nat) (u : Value) (T : List RowO), f ≤ 8 ∧ i = .int .i64 f ∧ Chg NoB w wr ∧ Blk wr w.heap.size 31 #[.slice A 8 c] ∧ Blk wr (w.heap.size + 1) 31 #[.slice none 0 0] ∧ Blk wr V 31 #[u] ∧ wr.ownsRow (V + 1) 24 1 u f (T.map RowO.cell) ∧ RowsO (V + 1) wr.heap.size wr T ∧ Hid (listsOf T = X.take f) ∧ V < wr.heap.size) (fun i _ => 8 - (intOf i).toNat)
  case atStart => exact ⟨0, .slice none 0 0, [], Nat.zero_le _, rfl, HC5.out, HS5.out, HR5.out, HV0.out, World.ownsRow_nil _ _ _ _, RowsO.nil _ _ _, Lib.hid rfl, by rw [HSZ.out]; omega⟩
  case round =>
    obtain ⟨wo, rfl⟩ : ∃ wo, wo = wr := ⟨_, rfl⟩
    obtain ⟨f, u, T, hf8, rfl, hch, hbs, hbr, hbv, hou, hrows, hT, hVB⟩ := hrel
    have hTl : T.length = f := by have := congrArg List.length hT.out; rw [listsOf_length, List.length_take, h8] at this; omega
    have HC := Lib.hid hch
    have HS := Lib.hid hbs
    have HR := Lib.hid hbr
    have HVV := Lib.hid hbv
    have HOU := Lib.hid hou
    have HRW := Lib.hid hrows
    have s1 : wo.cell? ⟨w.heap.size, 0, none⟩ = some (.slice A 8 c) := (hbs.cell _).trans rfl
    by_cases hlt : f < 8
    · obtain ⟨ad, Br, cr, rfl, hfF, hcell, hrr, hc1⟩ := (h.lt.new hch) f (by omega)
      have h6 : X[f].length = 6 := (HX.out.2 f (by omega)).1
      rw [h6] at hcell hc1
      have HH6 := Lib.hid h6
      have HC1 := Lib.hid hc1
      have HF1 := Lib.hid (show ¬ ((⟨w.heap.size, 0, none⟩ : Addr).block = V ∨ some (⟨w.heap.size, 0, none⟩ : Addr).block = u.ownBlock) from fun hh => by
        rcases hh with h1 | h1
        · simp only at h1; omega
        · have := (hou.lt _ h1.symm).1; simp only at this; omega)
      have HF3 := Lib.hid (show ¬ ((ad.add f).block = V ∨ some (ad.add f).block = u.ownBlock) from fun hh => by
        rcases hh with h1 | h1
        · have := hfF.2; rw [block_add] at h1; omega
        · have h2 := (hou.lt _ h1.symm).1; rw [block_add] at h2; have := hfF.2; omega)
      have HU := Lib.hid (show ∀ k, some k = u.ownBlock → k < wo.heap.size from fun k hk => (hou.lt _ hk.symm).2)
      have HSRC := Lib.hid hrr
      have HCELL := Lib.hid hcell
      have HF2 := Lib.hid (show ∀ k, (F k ∧ k < w.heap.size) → ¬ (k = V ∨ some k = u.ownBlock) from fun k hk hh => by
        rcases hh with h1 | h1
        · omega
        · have := (hou.lt _ h1.symm).1; omega)
      have hchl := Lib.hid (show (icells X[f]).length = 6 * 1 by rw [icells_length, h6])
      have hq0 : (0 : Int) ≤ (f : Int) := Int.natCast_nonneg _
      have hq1 : (f : Int) < 8 := by omega
      obtain ⟨ch, hchE⟩ : ∃ ch, X[f] = ch := ⟨_, rfl⟩
      rw [hchE] at HSRC hchl HH6
      have HCE := Lib.hid hchE
      clear hch hbs hbr hbv hou hrows hrr hfF hc1 hcell h6 hchE
      go_wp2_with fail
      refine wp_region_rg (WInv := fun _ m w5 => NestI w wo 31 24 V (V + 1) wo.heap.size u f (T.map RowO.cell) 1 8 9 10 12 m w5) (R := Chg (fun k => k < wo.heap.size)) (Post := cyPost V w.heap.size wo.heap.size u ad c f Br cr ch) (by kernel_rfl) (by kernel_rfl) (fun _ _ _ _ h _ _ => h) (fun i v w1 w2 h hc => cyPost_stab h hc) (NestI.start (HC.out.drew) ((Chg.refl _ _).drew) (own_chg1 HOU.out ((Chg.refl NoB wo).drew) (fun _ _ _ _ x => x)) (HVV.out.chg ((Chg.refl NoB wo).drew) (fun x => x))) ?_ ?_
      · refine ⟨?_, ?_, ?_, ?_, ?_, ?_, ?_, ?_, ?_, ?_, ?_, ?_, ?_, trivial⟩
        · rintro kc m a w5 hkc hN hm hn
          have e1 : a.tmps[3]?.getD undef = .pointer (some ⟨V, 0, none⟩) := hn.1
          exact rg_val (v := .pointer (some ⟨V, 0, none⟩)) (by simp [execOp, go_sem, e1]) rfl (hN.keep hm (by decide) (by decide) (by decide) (Chg.refl _ _)) (Chg.refl _ _) rfl
        · rintro kc m a w5 hkc hN hm hn
          obtain ⟨⟨_, e1, _, rfl⟩, -⟩ := hn
          have hz : w5.cell? ⟨V, 0, none⟩ = some u := ((hN.load hm).cell _).trans rfl
          exact rg_val (v := u) (by simp [execOp, go_sem, e1, hz]) rfl (hN.keep hm (by decide) (by decide) (by decide) (Chg.refl _ _)) (Chg.refl _ _) rfl
        · rintro kc m a w5 hkc hN hm hn
          have hca : Chg NoB w5 (w5.alloc (.cells #[] 3)) := (Chg.refl _ _).alloc _
          exact rg_val (v := .slice (some ⟨w5.heap.size, 0, none⟩) 0 0) (w' := w5.alloc (.cells #[] 3)) (by simp [execOp, go_sem]) rfl (hN.keep hm (by decide) (by decide) (by decide) hca) (hca.mono (fun _ _ x => x.elim)) ⟨_, rfl, hN.chg.size, Blk.new _ _ _⟩
        · rintro kc m a w5 hkc hN hm hn
          have e1 : a.tmps[1]?.getD undef = .pointer (some ⟨w.heap.size, 0, none⟩) := hn.1
          exact rg_val (v := .pointer (some ⟨w.heap.size, 0, none⟩)) (by simp [execOp, go_sem, e1]) rfl (hN.keep hm (by decide) (by decide) (by decide) (Chg.refl _ _)) (Chg.refl _ _) rfl
        · rintro kc m a w5 hkc hN hm hn
          obtain ⟨⟨_, e1, _, rfl⟩, -⟩ := hn
          have hz := hN.chg.cell s1 HF1.out
          exact rg_val (v := .slice (some ad) 8 c) (by simp [execOp, go_sem, e1, hz]) rfl (hN.keep hm (by decide) (by decide) (by decide) (Chg.refl _ _)) (Chg.refl _ _) rfl
        · rintro kc m a w5 hkc hN hm hn
          have e1 : a.tmps[4]?.getD undef = .int .i64 (f : Int) := hn.1
          exact rg_val (v := .int .i64 (f : Int)) (by simp [execOp, go_sem, e1]) rfl (hN.keep hm (by decide) (by decide) (by decide) (Chg.refl _ _)) (Chg.refl _ _) rfl
        · rintro kc m a w5 hkc hN hm hn
          obtain ⟨⟨_, e1, _, rfl⟩, ⟨_, e2, _, rfl⟩, -⟩ := hn
          exact rg_val (v := .pointer (some (ad.add f))) (by simp [execOp, go_sem, e1, e2]; exact fun hh => absurd hh (by omega)) rfl (hN.keep hm (by decide) (by decide) (by decide) (Chg.refl _ _)) (Chg.refl _ _) rfl
        · rintro kc m a w5 hkc hN hm hn
          obtain ⟨⟨_, e1, _, rfl⟩, -⟩ := hn
          have hz := hN.chg.cell HCELL.out HF3.out
          exact rg_val (v := .slice Br 6 cr) (by simp [execOp, go_sem, e1, hz]) rfl (hN.keep hm (by decide) (by decide) (by decide) (Chg.refl _ _)) (Chg.refl _ _) rfl
        · rintro kc m a w5 hkc hN hm hn
          obtain ⟨⟨_, e1, _, g0, rfl, hg0, hbl⟩, ⟨_, e2, _, rfl⟩, -⟩ := hn
          obtain ⟨v', w6, hr, ho, hc6, hne⟩ := run_append_fresh (P := Try.prog) w5 wo.heap.size 24 24 3 i0 (.int .i64 0) 1 8 Try.underlying24 hi hz0 hz1 hz2 rfl (by decide) g0 hg0 hbl Br 6 cr (icells ch) (by rw [hchl.out]) (HSRC.out.chg hN.chg (fun k hk => HF2.out k hk)) (by simp only [maxLen]; omega) (by omega) hN.chg.size
          exact rg_val (v := v') (w' := w6) (exec_append (.tmp 15) (.tmp 20) 24 rfl (by simpa [Act.eval] using e1) (by simpa [Act.eval] using e2) hr) rfl (hN.keep hm (by decide) (by decide) (by decide) hc6) (hc6.mono (fun _ _ x => x.elim)) ho
        · rintro kc m a w5 hkc hN hm hn
          obtain ⟨⟨rv, e1, hmr, ho⟩, -⟩ := hn
          obtain ⟨Ar, cr', rfl, _⟩ := own_rd ho
          have hca : Chg NoB w5 (w5.alloc (.cells #[.slice Ar 6 cr'] 24)) := (Chg.refl _ _).alloc _
          exact rg_val (v := .slice (some ⟨w5.heap.size, 0, none⟩) 1 1) (w' := w5.alloc (.cells #[.slice Ar 6 cr'] 24)) (by simp [execOp, go_sem, e1]) rfl (hN.lay hmr (by decide) (by decide) (by decide) (by decide) hm hca hN.chg.size (Blk.new _ _ _) rfl) (hca.mono (fun _ _ x => x.elim)) trivial
        · rintro kc m a w5 hkc hN hm hn
          obtain ⟨⟨_, e1, hm1, rfl⟩, ⟨_, e2, hmb, _⟩, -⟩ := hn
          obtain ⟨rv, b, hmr, rfl, hB, hbl, h1c⟩ := hN.elem _ hmb
          have hou := hN.app.1 hm
          obtain ⟨v', w6, hr, ho, hgr, hne⟩ := run_append_rd (P := Try.prog) w5 (V + 1) 29 29 24 j0 (.slice none 0 0) 1 24 Try.underlying29 hj hy0 hy1 hy2 rfl (by decide) _ f (T.map RowO.cell) hou (some ⟨b, 0, none⟩) 1 1 [rv] rfl hbl.rd (fun x hx => by simp at hx; subst hx; exact h1c) (by simp only [maxLen]; omega) (by omega) (by have := hN.chg.size; omega)
          exact rg_val (v := v') (w' := w6) (exec_append (.tmp 14) (.tmp 22) 29 rfl (by simpa [Act.eval] using e1) (by simpa [Act.eval] using e2) hr) rfl (hN.append hm hmr (by rw [hm1]; simp) (by decide) (by decide) (by decide) (by decide) lists_ne (by omega) HU.out hgr ho) ((chg_row hgr).mono fun k _ hk => HU.out k hk) trivial
        · rintro kc m a w5 hkc hN hm hn
          have e1 : a.tmps[3]?.getD undef = .pointer (some ⟨V, 0, none⟩) := hn.1
          exact rg_val (v := .pointer (some ⟨V, 0, none⟩)) (by simp [execOp, go_sem, e1]) rfl (hN.keep hm (by decide) (by decide) (by decide) (Chg.refl _ _)) (Chg.refl _ _) rfl
        · rintro kc m a w5 hkc hN hm hn
          obtain ⟨⟨_, e1, _, rfl⟩, ⟨v', e2, hma, _⟩, -⟩ := hn
          obtain ⟨news, ⟨rv, hmr, rfl⟩, ho⟩ := hN.app.2 _ hma
          obtain ⟨A5, c5, rfl, _⟩ := own_rd ho
          have hb := hN.var.ready hm
          have f0 := hb.frozen 0
          have x0 : w5.cell? ⟨V, 0, none⟩ = some u := (hb.cell _).trans rfl
          obtain ⟨Au, cu, hu5, _⟩ := own_rd HOU.out
          rw [hu5] at x0
          have hcs : Chg (· = V) w5 (w5.setCell ⟨V, 0, none⟩ (.slice A5 (f + 1) c5)) := (Chg.refl (· = V) w5).setCell (p := ⟨V, 0, none⟩) (.inl rfl) _
          exact rg_skip (w' := w5.setCell ⟨V, 0, none⟩ (.slice A5 (f + 1) c5)) (by simp [execOp, go_sem, e1, e2, x0, f0]) rfl (hN.store hma (by decide) (by decide) (by decide) (by decide) lists_ne (by omega) hVB hcs hb (hb.set_ 0 _)) (hcs.mono fun k _ hk => by rw [hk]; exact hVB) trivial
      · skip
        rintro m w5 hN
        simp only [AllVals]
        rintro rv0 m0 p0 rv1 m1 p1 rv2 m2 p2 rv3 m3 p3 rv4 m4 p4 rv5 m5 p5 rv6 m6 p6 rv7 m7 p7 rv8 m8 p8 rv9 m9 p9 rv10 m10 p10 rv11 m11 p11 rv12 m12 p12
        obtain ⟨hb5, ho5⟩ := hN.done m10 m12 m8
        have hrow := own_row_ok (p8 : w5.ownsRow wo.heap.size 3 1 rv8 6 (icells ch)) HH6.out (by omega)
        obtain ⟨g6, c6, rest6, hrv, hok6⟩ := hrow
        have HN := Lib.hid hN
        have HB5 := Lib.hid hb5
        have HO5 := Lib.hid ho5
        have HOK6 := Lib.hid hok6
        have HRV := Lib.hid hrv
        clear p0 p1 p2 p3 p4 p5 p6 p7 p8 p9 p10 p11 p12 hN hb5 ho5 hok6 hrv
        simp only [Act.put, List.setIfInBounds_toArray, List.set_cons_succ, List.set_cons_zero]
        go_wp2_with fail
        go_roundw
        case rel =>
          have hc5 := HN.out.chg
          obtain ⟨A5, c5, hv5, _⟩ := own_rd HO5.out
          have hb5 := HB5.out
          rw [hv5] at hb5
          refine ⟨f + 1, rv10, T ++ [⟨g6, c6, ch, rest6⟩], by omega, by go_num, HN.out.chg0, HS.out.chg hc5 HF1.out, HR.out.chg hc5 ?_, by rw [hv5]; exact hb5, ?_, ?_, Lib.hid ?_, by have := hc5.size; omega⟩
          · rintro (h1 | h1)
            · omega
            · have := (HOU.out.lt _ h1.symm).1; omega
          · rw [cells_snoc', ← HRV.out]; exact HO5.out
          · have h1 := (HRW.out.chgT hc5 (fun k cs hk hh => by
              rcases hh with h2 | h2
              · subst h2; exact ty_tab (hk.sameTy HVV.out)
              · exact own_ne_box HOU.out hk (Ne.symm ty_ne) h2))
            exact (h1.snoc ⟨by have h6 : wo.heap.size ≤ g6 := HOK6.out.1; show V + 1 ≤ g6; omega, HOK6.out.2⟩ HOK6.out.1)
          · rw [lists_snoc, hT.out, List.take_succ_eq_append_getElem (by rw [h8]; exact hlt), HCE.out]
        case measure => simp [intOf]; omega
    · obtain rfl : f = 8 := by omega
      obtain ⟨A8, c8, rfl, ho8⟩ := OwnS.of_row hou
      have hXX : listsOf T = X := by rw [hT.out]; exact List.take_of_length_le (by omega)
      have hTO : TabO (V + 1) wo.heap.size wo A8 c8 T := ⟨by rw [hTl]; exact ho8, hrows⟩
      have HXX := Lib.hid hXX
      have HTO := Lib.hid hTO
      clear hXX hTl hTO ho8 hrows hou hT HOU HRW
      have v0 : wo.cell? ⟨V, 0, none⟩ = some (.slice A8 8 c8) := (hbv.cell _).trans rfl
      have r0 : wo.cell? ⟨w.heap.size + 1, 0, none⟩ = some (.slice none 0 0) := (hbr.cell _).trans rfl
      have rf := hbr.frozen 0
      have HCV := Lib.hid hch
      clear hch hbs hbr hbv
      go_wp2_with fail
      (try simp only [Exit.inBlock, Exit.then])
      refine bodyPost_ret (v := .agg #[.slice A8 8 c8]) (by simp [results, Try.results80, go_sem, *]) rfl ?_
      have hcs : Chg (· = w.heap.size + 1) wo (wo.setCell ⟨w.heap.size + 1, 0, none⟩ (.slice A8 8 c8)) := (Chg.refl (· = w.heap.size + 1) wo).setCell (p := ⟨w.heap.size + 1, 0, none⟩) (.inl rfl) _
      have hss : (wo.setCell ⟨w.heap.size + 1, 0, none⟩ (.slice A8 8 c8)).heap.size = wo.heap.size := World.size_setCell _ _ _
      refine ⟨A8, c8, T, rfl, HXX.out, HCV.out.own hcs (Nat.le_succ _), ?_⟩
      exact (HTO.out.chg hcs (fun i h1 h2 h3 => by omega)).more (by omega) (by rw [hss]; omega)
end Go.Proofs.Ytpiojofmflfkkaa
/- l7New of the reference: the empty table. -/
namespace Go.Proofs.Ytpiojofmflfkkaa
open Go.RowKit
def NewTabP (w : World) (X : List (List Int)) (e : Ending) (w' : World) : Prop := ∃ A c T, e = .returned (.agg #[.slice A 8 c]) ∧ listsOf T = X ∧ Chg NoB w w' ∧ TabO w.heap.size w'.heap.size w' A c T
set_option maxRecDepth 100000 in
set_option maxHeartbeats 1000000 in
theorem l7New_any (w : World) :
    Calls Try.prog 128 #[] w (NewTabP w (emptyRows 8)) := by
  obtain ⟨i0, hi, hz0, hz1, hz2⟩ := info_parts info_int
  obtain ⟨j0, hj, hy0, hy1, hy2⟩ := info_parts info_ints'
  obtain ⟨q1, q2, q3⟩ := lit2 w 31 31 #[.slice none 0 0] #[.slice none 0 0]
  have HR0 := Lib.hid q1
  have HV0 := Lib.hid q2
  have HC0 := Lib.hid q3
  clear q1 q2 q3
  go_enter Try.func128, Try.ntmps128
  go_wp2
  go_loopw [2] (fun i wr => ∃ (f : Nat) (u : Value) (T : List RowO), f ≤ 8 ∧ i = .int .i64 f ∧ Chg NoB w wr ∧ Blk wr w.heap.size 31 #[.slice none 0 0] ∧ Blk wr (w.heap.size + 1) 31 #[u] ∧ wr.ownsRow (w.heap.size + 1 + 1) 24 1 u f (T.map RowO.cell) ∧ RowsO (w.heap.size + 1 + 1) wr.heap.size wr T ∧ Hid (listsOf T = emptyRows f)) (fun i _ => 8 - (intOf i).toNat)
  case atStart => exact ⟨0, .slice none 0 0, [], Nat.zero_le _, rfl, HC0.out, HR0.out, HV0.out, World.ownsRow_nil _ _ _ _, RowsO.nil _ _ _, Lib.hid rfl⟩
  case round =>
    obtain ⟨wo, rfl⟩ : ∃ wo, wo = wr := ⟨_, rfl⟩
    obtain ⟨f, u, T, hf8, rfl, hch, hbr, hbv, hou, hrows, hT⟩ := hrel
    obtain ⟨Au, cu, rfl, _⟩ := own_rd hou
    have hTl : T.length = f := by have := congrArg List.length hT.out; rw [listsOf_length, emptyRows, List.length_replicate] at this; exact this
    have HTL := Lib.hid hTl
    have HC := Lib.hid hch
    have HR := Lib.hid hbr
    have HV := Lib.hid hbv
    have HOU := Lib.hid hou
    have HRW := Lib.hid hrows
    have HVL := Lib.hid hbv.lt
    clear hTl
    by_cases hlt : f < 8
    · have HE := Lib.hid (own_empty wo 3 1 wo.heap.size (Nat.le_refl _))
      have HCE := Lib.hid ((Chg.refl NoB wo).alloc (.cells #[] 3))
      have HLT := Lib.hid hlt
      have hi1 : (f : Int) < 8 := by omega
      clear hch hbr hbv hou hrows
      go_wp2
      go_loopw [3, 4] (fun v i wr => ∃ k : Nat, k ≤ 6 ∧ i = .int .i64 k ∧ Chg NoB wo wr ∧ wr.ownsRow wo.heap.size 3 1 v k (icells (List.replicate k (-1)))) (fun _ i _ => 6 - (intOf i).toNat)
      case atStart => exact ⟨0, Nat.zero_le _, rfl, HCE.out, HE.out⟩
      case round =>
        obtain ⟨wi, rfl⟩ : ∃ wi, wi = wr := ⟨_, rfl⟩
        obtain ⟨k, hk6, rfl, hch, how⟩ := hrel
        have HCI := Lib.hid hch
        have HOI := Lib.hid how
        have hsz := hch.size
        by_cases hk : k < 6
        · have hcx : Chg NoB wi (wi.alloc (.cells #[.int .i64 (-1)] 3)) := (Chg.refl _ _).alloc _
          have HCX := Lib.hid hcx
          have HSX := Lib.hid (Nat.le_trans hsz hcx.size)
          have hk5 : (k : Int) ≤ 5 := by omega
          clear hch how hsz hcx
          go_wp2_with (at_builtin; refine wpList_append_rd rfl (.tmp 15) (.tmp 16) _ rfl wo.heap.size 3 i0 (.int .i64 0) 1 8 Try.underlying24 hi hz0 hz1 hz2 rfl (by decide) _ _ _ rfl (HOI.out.alloc _) (some ⟨wi.heap.size, 0, none⟩) 1 1 [.int .i64 (-1)] rfl rfl (Blk.new _ _ _).rd (by simp [Value.oneCell']) (by simp only [maxLen]; omega) (by omega) HSX.out ?_; intro v' w5 hown' hgrow _)
          go_roundw
          case rel =>
            refine ⟨k + 1, by omega, by go_num, chg_grown (HOI.out.alloc _) hgrow (HCI.out.alloc _) (Nat.le_refl _), ?_⟩
            have e1 : icells (List.replicate (k + 1) (-1)) = icells (List.replicate k (-1)) ++ [.int .i64 (-1)] := by rw [List.replicate_succ', ← icells_snoc']
            rw [e1]
            exact hown'
          case measure => simp [intOf]; omega
        · obtain rfl : k = 6 := by omega
          obtain ⟨g6, c6, rest6, rfl, hok6⟩ := own_row_ok how (by simp) (by omega)
          have hcx : Chg NoB wi (wi.alloc (.cells #[RowO.cell ⟨g6, c6, List.replicate 6 (-1), rest6⟩] 24)) := (Chg.refl _ _).alloc _
          have hou := own_chg1 HOU.out (HCI.out.trans hcx) (fun _ _ _ _ x => x)
          have hbv := HV.out.chg (HCI.out.trans hcx) (fun x => x)
          have v0 : wi.cell? ⟨w.heap.size + 1, 0, none⟩ = some (.slice Au f cu) := ((HV.out.chg HCI.out (fun x => x)).cell _).trans rfl
          have v0x : (wi.alloc (.cells #[RowO.cell ⟨g6, c6, List.replicate 6 (-1), rest6⟩] 24)).cell? ⟨w.heap.size + 1, 0, none⟩ = some (.slice Au f cu) := (hbv.cell _).trans rfl
          have hne : ¬ (some (w.heap.size + 1) = (Value.slice Au f cu).ownBlock) := fun hh => by
            have := (hou.lt _ hh.symm).1; omega
          have HNE := Lib.hid hne
          have HOX := Lib.hid hou
          have HBX := Lib.hid hbv
          have HOK := Lib.hid hok6
          have HSW := Lib.hid (show w.heap.size + 1 + 1 ≤ (wi.alloc (.cells #[RowO.cell ⟨g6, c6, List.replicate 6 (-1), rest6⟩] 24)).heap.size by have := HVL.out; have := hcx.size; omega)
          have HSZ := Lib.hid hsz
          have HCX := Lib.hid (HCI.out.trans hcx)
          have HCC := Lib.hid hcx
          clear hch how hok6 hcx hou hbv hne hsz
          obtain ⟨rc, hrc⟩ : ∃ rc, RowO.cell ⟨g6, c6, List.replicate 6 (-1), rest6⟩ = rc := ⟨_, rfl⟩
          have hrc1 : rc = .slice (some ⟨g6, 0, none⟩) 6 c6 := by rw [← hrc]; simp [RowO.cell]
          subst hrc1
          rw [hrc] at HOX HBX HSW HCX HCC v0x ⊢
          have HRC := Lib.hid hrc
          clear hrc
          go_wp2_with (at_builtin; refine wpList_append_rd rfl (.tmp 19) (.tmp 21) _ rfl (w.heap.size + 1 + 1) 24 j0 (.slice none 0 0) 1 24 Try.underlying29 hj hy0 hy1 hy2 rfl (by decide) _ _ _ rfl HOX.out (some ⟨wi.heap.size, 0, none⟩) 1 1 [.slice (some ⟨g6, 0, none⟩) 6 c6] rfl rfl (Blk.new _ _ _).rd (by simp [Value.oneCell']) (by simp only [maxLen]; omega) (by omega) HSW.out ?_; intro v' w5 hown' hgrow _; obtain ⟨A5, c5, rfl, _⟩ := own_rd hown'; have HOWN := Lib.hid hown'; have hg5 := chg_row hgrow; have HG5 := Lib.hid hg5; have hb5 := HBX.out.chg hg5 HNE.out; have v5 : w5.cell? ⟨w.heap.size + 1, 0, none⟩ = some (.slice Au f cu) := (hb5.cell _).trans rfl; have vf5 := hb5.frozen 0; have HB5 := Lib.hid hb5; clear hown' hgrow hg5 hb5)
          go_roundw
          case rel =>
            have hc5 : Chg (fun k => some k = (Value.slice Au f cu).ownBlock) wi w5 := (HCC.out.mono (fun _ _ x => x.elim)).trans HG5.out
            have hcs : Chg (· = w.heap.size + 1) w5 (w5.setCell ⟨w.heap.size + 1, 0, none⟩ (.slice A5 (f + 1) c5)) := (Chg.refl (· = w.heap.size + 1) w5).setCell (p := ⟨w.heap.size + 1, 0, none⟩) (.inl rfl) _
            have hss : (w5.setCell ⟨w.heap.size + 1, 0, none⟩ (.slice A5 (f + 1) c5)).heap.size = w5.heap.size := World.size_setCell _ _ _
            have hlo : ∀ k, some k = (Value.slice Au f cu).ownBlock → w.heap.size + 1 + 1 ≤ k := fun k hk => (HOU.out.lt _ hk.symm).1
            have hs5 := hc5.size
            refine ⟨f + 1, .slice A5 (f + 1) c5, T ++ [⟨g6, c6, List.replicate 6 (-1), rest6⟩], by have := HLT.out; omega, by go_num, ?_, ?_, ?_, ?_, ?_, Lib.hid ?_⟩
            · exact ((HC.out.trans HCI.out).trans' hc5 (fun i hi => .inr (by have := hlo i hi; omega))).own hcs (by omega)
            · exact (((HR.out.chg HCI.out (fun x => x)).chg hc5 (fun hh => by have := hlo _ hh; omega)).chg hcs (by omega))
            · exact HB5.out.set_ 0 _
            · rw [cells_snoc', HRC.out]
              exact own_chg1 HOWN.out hcs (fun g cs hg _ he => by omega)
            · have h0 : RowsO (w.heap.size + 1 + 1) wi.heap.size wi (T ++ [⟨g6, c6, List.replicate 6 (-1), rest6⟩]) := (HRW.out.new HCI.out).snoc ⟨by have h6 : wo.heap.size ≤ g6 := HOK.out.1; have := HVL.out; show w.heap.size + 1 + 1 ≤ g6; omega, HOK.out.2⟩ HOK.out.1
              have hoi := own_chg1 HOU.out HCI.out (fun _ _ _ _ x => x)
              have h1 := h0.chgT hc5 (fun k cs hk hh => own_ne_box hoi hk (Ne.symm ty_ne) hh)
              exact (h1.chg hcs (fun i h1 h2 h3 => by omega)).more (Nat.le_refl _) (by rw [hss]; exact hs5)
            · rw [lists_snoc, hT.out]; unfold emptyRows; rw [← List.replicate_succ']
          case measure => simp [intOf]; have := HLT.out; omega
    · obtain rfl : f = 8 := by omega
      obtain ⟨A8, c8, he, ho8⟩ := OwnS.of_row hou
      injection he with he1 he2 he3
      subst he1 he3
      have hTO : TabO (w.heap.size + 1 + 1) wo.heap.size wo Au cu T := ⟨by rw [HTL.out]; exact ho8, hrows⟩
      have HTO := Lib.hid hTO
      have v0 : wo.cell? ⟨w.heap.size + 1, 0, none⟩ = some (.slice Au 8 cu) := (hbv.cell _).trans rfl
      have r0 : wo.cell? ⟨w.heap.size, 0, none⟩ = some (.slice none 0 0) := (hbr.cell _).trans rfl
      have rf := hbr.frozen 0
      clear hch hbr hbv hou hrows hTO ho8 HOU HRW
      go_wp2_with fail
      (try simp only [Exit.inBlock, Exit.then])
      refine bodyPost_ret (v := .agg #[.slice Au 8 cu]) (by simp [results, Try.results128, go_sem, *]) rfl ?_
      have hcs : Chg (· = w.heap.size) wo (wo.setCell ⟨w.heap.size, 0, none⟩ (.slice Au 8 cu)) := (Chg.refl (· = w.heap.size) wo).setCell (p := ⟨w.heap.size, 0, none⟩) (.inl rfl) _
      have hss : (wo.setCell ⟨w.heap.size, 0, none⟩ (.slice Au 8 cu)).heap.size = wo.heap.size := World.size_setCell _ _ _
      refine ⟨Au, cu, T, rfl, hT.out, HC.out.own hcs (Nat.le_refl _), ?_⟩
      exact (HTO.out.chg hcs (fun i h1 h2 h3 => by omega)).more (by omega) (by rw [hss]; omega)
end Go.Proofs.Ytpiojofmflfkkaa
/- CutFile of the program and of the reference, from place 0 on, on a table that is valid. -/
namespace Go.Proofs.Ytpiojofmflfkkaa
open Go.RowKit
theorem tabOk_small {X : List (List Int)} (h : tabOk X) : total X ≤ 1048576 ∧ X.length ≤ 9223372036854775807 ∧ ∀ r ∈ X, r.length ≤ 9223372036854775807 := by
  have h8 := h.1
  have hr : ∀ r ∈ X, r.length = 6 := fun r hr => by
    obtain ⟨k, hk, rfl⟩ := List.getElem_of_mem hr
    exact (h.2 k hk).1
  have : ∀ (l : List (List Int)), (∀ r ∈ l, r.length = 6) → (l.map List.length).sum = 6 * l.length := by
    intro l
    induction l with
    | nil => intro _; rfl
    | cons x l ih => intro h; rw [List.map_cons, List.sum_cons, ih (fun r hr => h r (List.mem_cons_of_mem _ hr)), h x (List.mem_cons_self), List.length_cons]; omega
  refine ⟨?_, by omega, fun r h => by rw [hr r h]; omega⟩
  unfold total
  have h3 := this _ hr
  omega
theorem TabO.at_ {B E : Nat} {w : World} {A : Option Addr} {c : Nat} {T : List RowO} (h : TabO B E w A c T) {f : Nat} (hf : f < T.length) :
    ∃ ad, A = some ad ∧ B ≤ (ad.add f).block ∧ (ad.add f).block < E ∧ w.cell? (ad.add f) = some (.slice (some ⟨T[f].g, 0, none⟩) T[f].xs.length T[f].c) := by
  obtain ⟨ad, e, hf', hb, hc⟩ := h.1.rd.at_ (k := f) (by simpa using hf)
  rw [List.getElem_map] at hc
  have hb' : (ad.add f).block = ad.block := block_add _ _
  exact ⟨ad, e, by rw [hb']; exact hf'.1, by rw [hb']; exact hf'.2, hc⟩
/-- One list of the table is turned. -/
theorem TabO.setRow {B E : Nat} {w w' : World} {A : Option Addr} {c : Nat} {T : List RowO} (h : TabO B E w A c T) {f : Nat} (hf : f < T.length) {ys : List Int} (hc : Chg (· = T[f].g) w w') (hl : ys.length = T[f].xs.length) (hb : Blk w' T[f].g 3 (icells ys ++ T[f].rest).toArray) :
    TabO B E w' A c (T.set f ⟨T[f].g, T[f].c, ys, T[f].rest⟩) := by
  have hrows := rows_mark (ys := ys) h.2 hf (hc.mono (G := fun i => T[f].g ≤ i ∧ i < T[f].g + 1) (fun i _ hi => by omega)) hl hb
  refine ⟨?_, hrows⟩
  rw [List.length_set, rows_cell (rest' := T[f].rest) hf hl]
  have h0 := h.1
  refine ⟨h0.1, ?_⟩
  rcases h0.2 with h0 | ⟨g', rest, hA, hg, hE, hbb⟩
  · exact .inl h0
  · exact .inr ⟨g', rest, hA, hg, hE, hbb.chg hc (fun he => ty_ne (Blk.ty (h.2.1 _ (List.getElem_mem hf)).2.2.1 (by rw [← he]; exact hbb)))⟩
theorem icells_set (xs : List Int) (k : Nat) (v : Int) : icells (xs.set k v) = (icells xs).set k (.int .i64 v) := by unfold icells; rw [List.map_set]
/-- A number is stored into a list. -/
theorem row_store {w : World} {g : Nat} {xs : List Int} {rest : List Value} (h : Blk w g 3 (icells xs ++ rest).toArray) {k : Nat} (hk : k < xs.length) (v : Int) :
    Blk (w.setCell ⟨g, k, none⟩ (.int .i64 v)) g 3 (icells (xs.set k v) ++ rest).toArray := by
  have h1 := h.set_ k (.int .i64 v)
  have e : ((icells xs ++ rest).toArray).setIfInBounds k (.int .i64 v) = (icells (xs.set k v) ++ rest).toArray := by
    rw [List.setIfInBounds_toArray, icells_set, List.set_append_left _ _ (by rw [icells_length]; exact hk)]
  rw [← e]
  exact h1
theorem row_cell {w : World} {g : Nat} {xs : List Int} {rest : List Value} (h : Blk w g 3 (icells xs ++ rest).toArray) {k : Nat} (hk : k < xs.length) : w.cell? ⟨g, k, none⟩ = some (.int .i64 xs[k]) := by
  rw [h.cell]
  have hl : k < (icells xs).length := by rw [icells_length]; exact hk
  rw [List.getElem?_toArray, List.getElem?_append_left hl]
  simp [icells, hk]
/-- A list whose first k places are cut. -/
def cutRow (k : Nat) (xs : List Int) : List Int := List.replicate k (-1) ++ xs.drop k
theorem cutRow_zero (xs : List Int) : cutRow 0 xs = xs := by simp [cutRow]
theorem cutRow_len {xs : List Int} {k : Nat} (h : k ≤ xs.length) : (cutRow k xs).length = xs.length := by simp [cutRow]; omega
theorem cutRow_succ {xs : List Int} {k : Nat} (h : k < xs.length) : (cutRow k xs).set k (-1) = cutRow (k + 1) xs := by
  unfold cutRow
  rw [List.set_append_right _ _ (by simp), List.length_replicate, Nat.sub_self, List.drop_eq_getElem_cons h, List.set_cons_zero, List.replicate_succ', List.append_assoc]
  rfl
theorem cutRow_all {xs : List Int} (h : xs.length = 6) : cutRow 6 xs = List.replicate 6 (-1) := by
  unfold cutRow
  rw [List.drop_of_length_le (by omega), List.append_nil]
theorem rowOk_less {pre pre' r : List Int} (h : rowOk pre r) (hs : ∀ x ∈ pre', 0 ≤ x → x ∈ pre) : rowOk pre' r := by
  refine ⟨h.1, fun k hk => ⟨(h.2 k hk).1, (h.2 k hk).2.1, fun h0 hm => ?_⟩⟩
  refine (h.2 k hk).2.2 h0 ?_
  rcases List.mem_append.1 hm with h1 | h1
  · exact List.mem_append.2 (.inl (hs _ h1 h0))
  · exact List.mem_append.2 (.inr h1)
theorem rowOk_blank (pre : List Int) : rowOk pre (List.replicate 6 (-1)) := ⟨by simp, fun k hk => by rw [List.getElem_replicate]; exact ⟨by omega, by omega, fun h => absurd h (by omega)⟩⟩
theorem tabOk_cut {X : List (List Int)} (h : tabOk X) (f : Nat) : tabOk (X.set f (List.replicate 6 (-1))) := by
  refine ⟨by rw [List.length_set]; exact h.1, fun j hj => ?_⟩
  rw [List.length_set] at hj
  rw [List.getElem_set]
  split
  · exact rowOk_blank _
  · refine rowOk_less (h.2 j hj) fun x hx h0 => ?_
    obtain ⟨l, hl, hxl⟩ := List.mem_flatten.1 hx
    refine List.mem_flatten.2 ⟨l, ?_, hxl⟩
    rw [List.take_set] at hl
    rcases List.mem_or_eq_of_mem_set hl with h1 | rfl
    · exact h1
    · have := List.eq_of_mem_replicate hxl; omega
set_option maxRecDepth 100000 in
set_option maxHeartbeats 1000000 in
theorem sCutFile_any (F : Nat → Prop) (A : Option Addr) (c : Nat) (X : List (List Int)) (w : World) (h : TabR F w A X) (hX : tabOk X) (f : Nat) (hf : f < 8) :
    Calls Try.prog 149 #[.agg #[.slice A X.length c], .int .i64 f, .int .i64 0] w fun e w' => ∃ A' c' T, e = .returned (.agg #[.slice A' 8 c']) ∧ listsOf T = X.set f (List.replicate 6 (-1)) ∧ Chg NoB w w' ∧ TabO w.heap.size w'.heap.size w' A' c' T := by
  obtain ⟨hb1, hb2, hcb⟩ := lit2 w 31 31 #[.slice A X.length c] #[.slice none 0 0]
  have HB1 := Lib.hid hb1
  have HB2 := Lib.hid hb2
  have HC0 := Lib.hid hcb
  have h0 := h.lt.new hcb
  have HX := Lib.hid hX
  have h8 := hX.1
  have hXl := Lib.hid (show X.length ≤ 9223372036854775807 by omega)
  have hXr : ∀ r ∈ X, r.length ≤ 9223372036854775807 := fun r hr => by
    obtain ⟨k, hk, rfl⟩ := List.getElem_of_mem hr
    have := (hX.2 k hk).1; omega
  have HXR := Lib.hid hXr
  have hi0 : (0 : Int) ≤ (f : Int) := Int.natCast_nonneg _
  have hi1 : (f : Int) < 8 := by omega
  have hi2 : ¬ ((f : Int) < 0) := by omega
  have hi3 : ¬ ((8 : Int) ≤ (f : Int)) := by omega
  clear hb1 hb2 hcb hX hXr h8
  go_enter Try.func149, Try.ntmps149
  go_wp2_with fail
  refine (sTableValid_any _ A c X _ h0 hXl.out HXR.out).mono ?_
  rintro e w1 ⟨r, rfl, hr, hc1⟩
  obtain rfl : r = true := hr.2 HX.out
  have H1 := Lib.hid (h0.new hc1)
  have HC1 := Lib.hid (HC0.out.trans hc1)
  have hb1 := HB1.out.chg hc1 (fun x => x)
  have x0 : w1.cell? ⟨w.heap.size, 0, none⟩ = some (.slice A X.length c) := (hb1.cell _).trans rfl
  have HB2' := Lib.hid (HB2.out.chg hc1 (fun x => x))
  clear hr h0 hb1 hc1 HB1 HB2
  go_wp2_with fail
  refine (l1In_t (f : Int) 0 7 _ ⟨by omega, by omega⟩).mono ?_
  rintro e w' ⟨rfl, rfl⟩
  go_wp2_with fail
  refine (l1In_t (0 : Int) 0 6 _ ⟨by omega, by omega⟩).mono ?_
  rintro e w' ⟨rfl, rfl⟩
  go_wp2_with fail
  refine (l7Copy_any _ A c X _ H1.out HX.out).mono ?_
  rintro e w2 ⟨Aq, cq, T, rfl, hT, hc2, hO⟩
  have h8 := HX.out.1
  have hT8 : T.length = 8 := by rw [← listsOf_length, hT, h8]
  have HT := Lib.hid hT
  have HO := Lib.hid hO
  have HC2 := Lib.hid (HC1.out.trans hc2)
  have HR2 := Lib.hid (HB2'.out.chg hc2 (fun x => x))
  have hca := (Chg.refl NoB w2).alloc (.cells #[.slice Aq 8 cq] 31)
  have HV0 := Lib.hid (Blk.new w2 31 #[.slice Aq 8 cq])
  have HC3 := Lib.hid (HC2.out.trans hca)
  have HR3 := Lib.hid (HR2.out.chg hca (fun x => x))
  have HO3 := Lib.hid (HO.out.new hca)
  have HSZ := Lib.hid (show (w2.alloc (.cells #[.slice Aq 8 cq] 31)).heap.size = w2.heap.size + 1 by rw [World.size_alloc])
  have HS1 := Lib.hid (show w.heap.size + 1 < w1.heap.size from HB2'.out.lt)
  have HS2 := Lib.hid hc2.size
  clear hT hO hc2 hca x0 h8 hT8
  go_wp2
  obtain ⟨V, hV⟩ : ∃ V, w2.heap.size = V := ⟨_, rfl⟩
  have hVz := HSZ.out
  have hVs := HS2.out
  rw [hV] at HV0 hVz hVs HO HO3 ⊢
  replace HSZ := Lib.hid hVz
  replace HS2 := Lib.hid hVs
  clear hV hVz hVs
  go_loopw [8] (fun i wr => ∃ (k : Nat) (T : List RowO), k ≤ 6 ∧ i = .int .i64 k ∧ Chg NoB w wr ∧ Blk wr (w.heap.size + 1) 31 #[.slice none 0 0] ∧ Blk wr V 31 #[.slice Aq 8 cq] ∧ Hid (∃ hf' : f < X.length, listsOf T = X.set f (cutRow k X[f])) ∧ TabO w1.heap.size V wr Aq cq T) (fun i _ => 6 - (intOf i).toNat)
  case atStart => exact ⟨0, T, Nat.zero_le _, rfl, HC3.out, HR3.out, HV0.out, Lib.hid ⟨by rw [HX.out.1]; exact hf, by rw [cutRow_zero, List.set_getElem_self]; exact HT.out⟩, HO3.out⟩
  case round =>
    obtain ⟨wo, rfl⟩ : ∃ wo, wo = wr := ⟨_, rfl⟩
    obtain ⟨k, T', hk6, rfl, hch, hbr, hbv, ⟨hf', hT'⟩, hO⟩ := hrel
    have hTl : T'.length = 8 := by rw [← listsOf_length, hT', List.length_set, HX.out.1]
    have HC := Lib.hid hch
    have HR := Lib.hid hbr
    have HVV := Lib.hid hbv
    have HOO := Lib.hid hO
    have HT' := Lib.hid hT'
    have v0 : wo.cell? ⟨V, 0, none⟩ = some (.slice Aq 8 cq) := (hbv.cell _).trans rfl
    have hlV := HSZ.out
    have hlV1 := HS1.out
    have hlV2 := HS2.out
    by_cases hlt : k < 6
    · have hfT : f < T'.length := by omega
      have h6 : X[f].length = 6 := (HX.out.2 f hf').1
      have hxs : T'[f].xs = cutRow k X[f] := by
        have h1 : (listsOf T')[f]'(by rw [listsOf_length]; exact hfT) = T'[f].xs := by simp [listsOf]
        rw [← h1]; simp [hT']
      have hl6 : T'[f].xs.length = 6 := by rw [hxs, cutRow_len (by omega), h6]
      obtain ⟨ad, he, hB1, hE1, hcell⟩ := hO.at_ hfT
      subst he
      rw [hl6] at hcell
      have hok := hO.2.1 T'[f] (List.getElem_mem hfT)
      have hrc := row_cell hok.2.2.1 (k := k) (by omega)
      have hrf := hok.2.2.1.frozen k
      have hstore := row_store hok.2.2.1 (k := k) (by omega) (-1)
      have hcs : Chg (· = T'[f].g) wo (wo.setCell ⟨T'[f].g, k, none⟩ (.int .i64 (-1))) := (Chg.refl (· = T'[f].g) wo).setCell (p := ⟨T'[f].g, k, none⟩) (.inl rfl) _
      have HG := Lib.hid (show w1.heap.size ≤ T'[f].g ∧ T'[f].g < V from ⟨hok.1, hok.2.1⟩)
      have HN := Lib.hid (hO.setRow hfT hcs (by rw [List.length_set]) hstore)
      have HL := Lib.hid (show listsOf (T'.set f ⟨T'[f].g, T'[f].c, T'[f].xs.set k (-1), T'[f].rest⟩) = X.set f (cutRow (k + 1) X[f]) by rw [rows_lists, hT', List.set_set]; simp only; rw [hxs, cutRow_succ (by omega)])
      have HCS := Lib.hid hcs
      obtain ⟨gf, hgf⟩ : ∃ gf, T'[f].g = gf := ⟨_, rfl⟩
      obtain ⟨xk, hxk⟩ : ∃ xk, T'[f].xs[k]'(by omega) = xk := ⟨_, rfl⟩
      obtain ⟨cf, hcf⟩ : ∃ cf, T'[f].c = cf := ⟨_, rfl⟩
      rw [hgf, hcf] at hcell
      rw [hgf, hxk] at hrc
      rw [hgf] at hrf HG
      have HGF := Lib.hid hgf
      have hk0 : (0 : Int) ≤ (k : Int) := Int.natCast_nonneg _
      have hk1 : (k : Int) < 6 := by omega
      have hk5 : (k : Int) ≤ 5 := by omega
      clear hch hbr hbv hO hok hstore hcs hxs hgf hcf hxk hT' h6
      go_wp2_with fail
      (try go_region)
      go_wp2_with fail
      go_roundw
      case rel =>
        have hg := HG.out
        refine ⟨k + 1, T'.set f ⟨T'[f].g, T'[f].c, T'[f].xs.set k (-1), T'[f].rest⟩, by omega, by go_num, ?_, ?_, ?_, Lib.hid ⟨hf', HL.out⟩, ?_⟩
        · have h1 := HC.out.own HCS.out (by rw [HGF.out]; omega); rw [HGF.out] at h1; exact h1
        · have h1 := HR.out.chg HCS.out (by rw [HGF.out]; omega); rw [HGF.out] at h1; exact h1
        · have h1 := HVV.out.chg HCS.out (by rw [HGF.out]; omega); rw [HGF.out] at h1; exact h1
        · have h1 := HN.out; rw [HGF.out] at h1 ⊢; exact h1
      case measure => simp [intOf]; omega
    · obtain rfl : k = 6 := by omega
      have r0 : wo.cell? ⟨w.heap.size + 1, 0, none⟩ = some (.slice none 0 0) := (hbr.cell _).trans rfl
      have rf := hbr.frozen 0
      have h6 : X[f].length = 6 := (HX.out.2 f hf').1
      have HXX := Lib.hid (show listsOf T' = X.set f (List.replicate 6 (-1)) by rw [hT', cutRow_all h6])
      have HVL := Lib.hid hbv.lt
      clear hch hbr hbv hO hT' h6
      go_wp2_with fail
      (try simp only [Exit.inBlock, Exit.then])
      refine bodyPost_ret (v := .agg #[.slice Aq 8 cq]) (by simp [results, Try.results149, go_sem, *]) rfl ?_
      have hcs : Chg (· = w.heap.size + 1) wo (wo.setCell ⟨w.heap.size + 1, 0, none⟩ (.slice Aq 8 cq)) := (Chg.refl (· = w.heap.size + 1) wo).setCell (p := ⟨w.heap.size + 1, 0, none⟩) (.inl rfl) _
      have hss : (wo.setCell ⟨w.heap.size + 1, 0, none⟩ (.slice Aq 8 cq)).heap.size = wo.heap.size := World.size_setCell _ _ _
      have hvl := HVL.out
      refine ⟨Aq, cq, T', rfl, HXX.out, HC.out.own hcs (Nat.le_succ _), ?_⟩
      exact (HOO.out.chg hcs (fun i h1 h2 h3 => by omega)).more (by omega) (by rw [hss]; omega)
end Go.Proofs.Ytpiojofmflfkkaa
/- Tables by places; where one place of a table lies. -/
namespace Go.Proofs.Ytpiojofmflfkkaa
open Go.RowKit
/-- The table with these pages. -/
def tabF (φ : Nat → Nat → Int) : List (List Int) := (List.range 8).map fun f => (List.range 6).map fun p => φ f p
def tget (X : List (List Int)) (f p : Nat) : Int := (X.getD f []).getD p 0
def upd2 (φ : Nat → Nat → Int) (f p : Nat) (v : Int) : Nat → Nat → Int := fun f' p' => if f' = f ∧ p' = p then v else φ f' p'
theorem tabF_len (φ : Nat → Nat → Int) : (tabF φ).length = 8 := by simp [tabF]
theorem tabF_get (φ : Nat → Nat → Int) {f : Nat} (h : f < (tabF φ).length) : (tabF φ)[f] = (List.range 6).map fun p => φ f p := by simp [tabF]
theorem tabF_row (φ : Nat → Nat → Int) {f : Nat} (h : f < 8) : (tabF φ)[f]? = some ((List.range 6).map fun p => φ f p) := by
  rw [List.getElem?_eq_getElem (by rw [tabF_len]; exact h), tabF_get]
theorem tabF_congr {φ ψ : Nat → Nat → Int} (h : ∀ f p, f < 8 → p < 6 → φ f p = ψ f p) : tabF φ = tabF ψ := by
  unfold tabF
  apply List.map_congr_left
  intro f hf
  apply List.map_congr_left
  intro p hp
  exact h f p (List.mem_range.1 hf) (List.mem_range.1 hp)
theorem tabF_tget {X : List (List Int)} (h : tabOk X) : tabF (tget X) = X := by
  apply List.ext_getElem
  · rw [tabF_len, h.1]
  · intro f h1 h2
    rw [tabF_get]
    have h6 := (h.2 f h2).1
    apply List.ext_getElem
    · simp [h6]
    · intro p h3 h4
      simp only [List.getElem_map, List.getElem_range]
      have e : X.getD f [] = X[f] := by rw [List.getD_eq_getElem?_getD, List.getElem?_eq_getElem h2]; rfl
      unfold tget
      rw [e, List.getD_eq_getElem?_getD, List.getElem?_eq_getElem h4, Option.getD_some]
theorem tget_tabF (φ : Nat → Nat → Int) {f p : Nat} (hf : f < 8) (hp : p < 6) : tget (tabF φ) f p = φ f p := by
  have e : (tabF φ).getD f [] = (List.range 6).map fun p => φ f p := by rw [List.getD_eq_getElem?_getD, tabF_row φ hf]; rfl
  unfold tget
  rw [e, List.getD_eq_getElem?_getD, List.getElem?_map, List.getElem?_range hp]
  rfl
theorem tabF_set (φ : Nat → Nat → Int) {f p : Nat} (v : Int) : (tabF φ).set f (((List.range 6).map fun p => φ f p).set p v) = tabF (upd2 φ f p v) := by
  apply List.ext_getElem
  · rw [List.length_set, tabF_len, tabF_len]
  · intro i h1 h2
    rw [List.getElem_set, tabF_get, tabF_get]
    split
    · rename_i he
      subst he
      apply List.ext_getElem
      · simp
      · intro j h3 h4
        rw [List.getElem_set]
        simp only [List.getElem_map, List.getElem_range]
        unfold upd2
        split
        · rename_i hj; rw [if_pos ⟨rfl, hj.symm⟩]
        · rename_i hj; rw [if_neg (fun hh => hj hh.2.symm)]
    · rename_i he
      apply List.map_congr_left
      intro j _
      unfold upd2
      rw [if_neg (fun hh => he hh.1.symm)]
/-- Where one place of a table lies, and what a store there leaves. -/
theorem TabO.spot {B E : Nat} {w : World} {g c : Nat} {T : List RowO} {φ : Nat → Nat → Int} (h : TabO B E w (some ⟨g, 0, none⟩) c T) (hT : listsOf T = tabF φ) {f p : Nat} (hf : f < 8) (hp : p < 6) :
    ∃ gf cf, w.cell? ⟨g, f, none⟩ = some (.slice (some ⟨gf, 0, none⟩) 6 cf) ∧ B ≤ gf ∧ gf < E ∧ w.cell? ⟨gf, p, none⟩ = some (.int .i64 (φ f p)) ∧ w.frozen? ⟨gf, p, none⟩ = false ∧ 6 ≤ cf ∧ gf ≠ g ∧
      ∀ v : Int, ∃ T', TabO B E (w.setCell ⟨gf, p, none⟩ (.int .i64 v)) (some ⟨g, 0, none⟩) c T' ∧ listsOf T' = tabF (upd2 φ f p v) := by
  have hTl : T.length = 8 := by rw [← listsOf_length, hT, tabF_len]
  have hfT : f < T.length := by omega
  have hxs : T[f].xs = (List.range 6).map fun p => φ f p := by
    have h1 : (listsOf T)[f]? = some T[f].xs := by simp [listsOf, List.getElem?_eq_getElem hfT]
    rw [hT, tabF_row φ hf] at h1
    exact (Option.some.inj h1).symm
  have h6 : T[f].xs.length = 6 := by rw [hxs]; simp
  obtain ⟨ad, he, _, _, hcell⟩ := h.at_ hfT
  injection he with he
  subst he
  rw [show (⟨g, 0, none⟩ : Addr).add f = ⟨g, f, none⟩ by unfold Addr.add; split <;> simp_all, h6] at hcell
  have hok := h.2.1 T[f] (List.getElem_mem hfT)
  have hrc := row_cell hok.2.2.1 (k := p) (by omega)
  have hval : T[f].xs[p]'(by omega) = φ f p := by simp [hxs]
  rw [hval] at hrc
  refine ⟨T[f].g, T[f].c, hcell, hok.1, hok.2.1, hrc, hok.2.2.1.frozen p, by have := hok.2.2.2; omega, fun he => ?_, fun v => ?_⟩
  · rcases h.1.2 with ⟨h0, _⟩ | ⟨g', rest, he', _, _, hb⟩
    · omega
    · injection he' with he'
      injection he' with he'
      subst he'
      rw [← he] at hb
      exact ty_ne (Blk.ty hok.2.2.1 hb)
  have hcs : Chg (· = T[f].g) w (w.setCell ⟨T[f].g, p, none⟩ (.int .i64 v)) := (Chg.refl (· = T[f].g) w).setCell (p := ⟨T[f].g, p, none⟩) (.inl rfl) _
  refine ⟨T.set f ⟨T[f].g, T[f].c, T[f].xs.set p v, T[f].rest⟩, h.setRow hfT hcs (by rw [List.length_set]) (row_store hok.2.2.1 (k := p) (by omega) v), ?_⟩
  rw [rows_lists, hT]
  simp only
  rw [hxs]
  exact tabF_set φ v
instance (pre r : List Int) : Decidable (rowOk pre r) := by unfold rowOk; infer_instance
instance (X : List (List Int)) : Decidable (tabOk X) := by unfold tabOk; infer_instance
theorem upd2_congr {φ ψ : Nat → Nat → Int} (h : tabF φ = tabF ψ) (f p : Nat) (v : Int) : tabF (upd2 φ f p v) = tabF (upd2 ψ f p v) := tabF_congr fun f' p' hf hp => by
  have e : φ f' p' = ψ f' p' := by rw [← tget_tabF φ hf hp, h, tget_tabF ψ hf hp]
  unfold upd2
  rw [e]
end Go.Proofs.Ytpiojofmflfkkaa
/- Tables whose places hold different pages are valid. -/
namespace Go.Proofs.Ytpiojofmflfkkaa
open Go.RowKit
def GoodF (φ : Nat → Nat → Int) : Prop := (∀ f p, f < 8 → p < 6 → -1 ≤ φ f p ∧ φ f p ≤ 47) ∧ ∀ f p f' p', f < 8 → p < 6 → f' < 8 → p' < 6 → 0 ≤ φ f p → φ f p = φ f' p' → f = f' ∧ p = p'
theorem tabOk_of {φ : Nat → Nat → Int} (h : GoodF φ) : tabOk (tabF φ) := by
  refine ⟨tabF_len φ, fun f hf => ?_⟩
  have hf8 : f < 8 := by rw [tabF_len] at hf; exact hf
  rw [tabF_get]
  refine ⟨by simp, fun k hk => ?_⟩
  have hk6 : k < 6 := by simpa using hk
  simp only [List.getElem_map, List.getElem_range]
  refine ⟨(h.1 f k hf8 hk6).1, (h.1 f k hf8 hk6).2, fun h0 hm => ?_⟩
  rw [List.mem_append] at hm
  rcases hm with hm | hm
  · rw [List.mem_flatten] at hm
    obtain ⟨l, hl, hx⟩ := hm
    obtain ⟨i, hi, rfl⟩ := List.getElem_of_mem hl
    have hi2 : i < f := by rw [List.length_take] at hi; omega
    rw [List.getElem_take, tabF_get, List.mem_map] at hx
    obtain ⟨j, hj, he⟩ := hx
    have := h.2 f k i j hf8 hk6 (by omega) (List.mem_range.1 hj) h0 he.symm
    omega
  · obtain ⟨j, hj, he⟩ := List.getElem_of_mem hm
    have hj2 : j < k := by rw [List.length_take] at hj; omega
    rw [List.getElem_take] at he
    simp only [List.getElem_map, List.getElem_range] at he
    have := h.2 f k f j hf8 hk6 hf8 (by omega) h0 he.symm
    omega
theorem tget_get {X : List (List Int)} (h : tabOk X) {f p : Nat} (hf : f < 8) (hp : p < 6) : ∃ (h1 : f < X.length) (h2 : p < X[f].length), X[f][p] = tget X f p := by
  have h1 : f < X.length := by rw [h.1]; exact hf
  have h2 : p < X[f].length := by rw [(h.2 f h1).1]; exact hp
  refine ⟨h1, h2, ?_⟩
  have e : X.getD f [] = X[f] := by rw [List.getD_eq_getElem?_getD, List.getElem?_eq_getElem h1]; rfl
  unfold tget
  rw [e, List.getD_eq_getElem?_getD, List.getElem?_eq_getElem h2, Option.getD_some]
theorem good_of {X : List (List Int)} (h : tabOk X) : GoodF (tget X) := by
  have key : ∀ f p f' p', f < 8 → p < 6 → f' < 8 → p' < 6 → 0 ≤ tget X f p → tget X f p = tget X f' p' → (f' < f ∨ (f' = f ∧ p' < p)) → False := by
    intro f p f' p' hf hp hf' hp' h0 he hlt
    obtain ⟨h1, h2, e1⟩ := tget_get h hf hp
    obtain ⟨h3, h4, e2⟩ := tget_get h hf' hp'
    have hn := ((h.2 f h1).2 p h2).2.2 (by rw [e1]; exact h0)
    apply hn
    rw [List.mem_append, e1, he, ← e2]
    rcases hlt with hl | ⟨rfl, hl⟩
    · refine .inl (List.mem_flatten.2 ⟨X[f'], ?_, List.getElem_mem h4⟩)
      have : f' < (X.take f).length := by rw [List.length_take]; omega
      rw [← List.getElem_take (i := f') (h := this)]
      exact List.getElem_mem this
    · refine .inr ?_
      have : p' < (X[f'].take p).length := by rw [List.length_take]; omega
      rw [← List.getElem_take (i := p') (h := this)]
      exact List.getElem_mem this
  refine ⟨fun f p hf hp => ?_, fun f p f' p' hf hp hf' hp' h0 he => ?_⟩
  · obtain ⟨h1, h2, e1⟩ := tget_get h hf hp
    rw [← e1]
    have := (h.2 f h1).2 p h2
    exact ⟨this.1, this.2.1⟩
  · by_cases h1 : f' < f ∨ (f' = f ∧ p' < p)
    · exact (key f p f' p' hf hp hf' hp' h0 he h1).elim
    · by_cases h2 : f < f' ∨ (f = f' ∧ p < p')
      · exact (key f' p' f p hf' hp' hf hp (by omega) he.symm h2).elim
      · omega
end Go.Proofs.Ytpiojofmflfkkaa
