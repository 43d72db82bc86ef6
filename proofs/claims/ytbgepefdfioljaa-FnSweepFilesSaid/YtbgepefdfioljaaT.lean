/- Tables: what they read as, and TableValid of the program and of the reference. -/
import Derived.Test.YtbgepefdfioljaaN
import Derived.Test.YtbgepefdfioljaaI
import Derived.Test.YtbgepefdfioljaaO
import Derived.Deep.QuietTactic
import Derived.BigQuiet
namespace Go.Proofs.Ytbgepefdfioljaa
open Go.RowKit

/-- The slice at A reads as the lists X; all of it lies in blocks of F. -/
def TabR (F : Nat → Prop) (w : World) (A : Option Addr) (X : List (List Int)) : Prop :=
  ∀ (k : Nat) (h : k < X.length), ∃ ad B c, A = some ad ∧ F ad.block ∧ w.cell? (ad.add k) = some (.slice B X[k].length c) ∧ Rd F w B (icells X[k]) ∧ X[k].length ≤ c
section
variable {F G : Nat → Prop} {w w' : World} {A : Option Addr} {X : List (List Int)}
theorem TabR.mono (h : TabR F w A X) (hg : ∀ i, i < w.heap.size → F i → G i) : TabR G w A X := fun k hk => by
  obtain ⟨ad, B, c, e, hf, hc, hr, h1⟩ := h k hk
  have := World.block_lt_of_cell? w _ hc
  rw [block_add] at this
  exact ⟨ad, B, c, e, hg _ this hf, hc, hr.mono hg, h1⟩
theorem TabR.lt (h : TabR F w A X) : TabR (fun i => F i ∧ i < w.heap.size) w A X := h.mono fun _ hi hf => ⟨hf, hi⟩
theorem TabR.chg (h : TabR F w A X) (hc : Chg G w w') (hd : ∀ i, F i → ¬ G i) : TabR F w' A X := fun k hk => by
  obtain ⟨ad, B, c, e, hf, hcell, hr, h1⟩ := h k hk
  exact ⟨ad, B, c, e, hf, hc.cell hcell (by rw [block_add]; exact hd _ hf), hr.chg hc hd, h1⟩
theorem TabR.new (h : TabR F w A X) (hc : Chg NoB w w') : TabR F w' A X := h.chg hc fun _ _ x => x
end

def rowOk (pre r : List Int) : Prop := r.length = 6 ∧ ∀ k (h : k < r.length), -1 ≤ r[k] ∧ r[k] ≤ 47 ∧ (0 ≤ r[k] → r[k] ∉ pre ++ r.take k)
def tabOk (X : List (List Int)) : Prop := X.length = 8 ∧ ∀ f (h : f < X.length), rowOk (X.take f).flatten X[f]

/-- Which numbers were seen. -/
def seenC (pre : List Int) : List Value := (List.range 48).map fun (j : Nat) => .bool (decide ((j : Int) ∈ pre))
theorem seenC_get (pre : List Int) (k : Nat) (h : k < 48) : (seenC pre)[k]? = some (.bool (decide ((k : Int) ∈ pre))) := by
  unfold seenC; rw [List.getElem?_map, List.getElem?_range h]; rfl
theorem seenC_length (pre : List Int) : (seenC pre).length = 48 := by simp [seenC]
theorem seenC_set (pre : List Int) (k : Nat) (_h : k < 48) : (seenC pre).toArray.setIfInBounds k (.bool true) = (seenC (pre ++ [(k : Int)])).toArray := by
  apply Array.ext'
  rw [Array.toList_setIfInBounds]
  apply List.ext_getElem?
  intro j
  rw [List.getElem?_set]
  simp only [seenC_length]
  by_cases hj : j < 48
  · rw [seenC_get _ _ hj, seenC_get _ _ hj]
    by_cases hkj : k = j
    · subst hkj; simp [hj]
    · simp only [hkj, if_false]
      have : ((j : Int) ∈ pre ++ [(k : Int)]) ↔ (j : Int) ∈ pre := by simp; omega
      simp only [this]
  · have h1 : ∀ p, (seenC p)[j]? = none := fun p => List.getElem?_eq_none (by rw [seenC_length]; omega)
    rw [h1, h1]
    by_cases hkj : k = j
    · omega
    · simp [hkj]
theorem seenC_neg (pre : List Int) (x : Int) (h : x < 0) : seenC (pre ++ [x]) = seenC pre := by
  unfold seenC
  apply List.map_congr_left
  intro j _
  have : ((j : Int) ∈ pre ++ [x]) ↔ (j : Int) ∈ pre := by simp; omega
  simp only [this]
theorem take_flat_succ (X : List (List Int)) (f : Nat) (h : f < X.length) : (X.take (f + 1)).flatten = (X.take f).flatten ++ X[f] := by
  rw [List.take_succ_eq_append_getElem h, List.flatten_append]; simp

theorem pageNumber_any (n : Int) (w : World) :
    Calls Try.prog 51 #[.int .i64 n] w fun e w' => e = .returned (.bool (decide (-1 ≤ n ∧ n ≤ 47))) ∧ w = w' := by
  go_enter Try.func51, Try.ntmps51
  by_cases h : -1 ≤ n
  all_goals by_cases h2 : n ≤ 47
  all_goals go_wp2
  all_goals go_ret
  all_goals exact ⟨ret_bool (by simp [*]; try omega), rfl⟩
theorem pageNumber_t (n : Int) (w : World) (h : -1 ≤ n ∧ n ≤ 47) : Calls Try.prog 51 #[.int .i64 n] w fun e w' => e = .returned (.bool true) ∧ w = w' :=
  (pageNumber_any n w).mono fun e w' ⟨he, hw⟩ => ⟨by rw [he, decide_eq_true h], hw⟩
theorem pageNumber_f (n : Int) (w : World) (h : ¬ (-1 ≤ n ∧ n ≤ 47)) : Calls Try.prog 51 #[.int .i64 n] w fun e w' => e = .returned (.bool false) ∧ w = w' :=
  (pageNumber_any n w).mono fun e w' ⟨he, hw⟩ => ⟨by rw [he, decide_eq_false h], hw⟩

/-- What is known of a row's first k numbers. -/
def rowTo (pre r : List Int) (k : Nat) : Prop := ∀ j (h : j < r.length), j < k → -1 ≤ r[j] ∧ r[j] ≤ 47 ∧ (0 ≤ r[j] → r[j] ∉ pre ++ r.take j)
def tabTo (X : List (List Int)) (f : Nat) : Prop := ∀ j (h : j < X.length), j < f → rowOk (X.take j).flatten X[j]
theorem rowTo_succ {pre r : List Int} {k : Nat} (h : k < r.length) (hr : rowTo pre r k) (h1 : -1 ≤ r[k]) (h2 : r[k] ≤ 47) (h3 : 0 ≤ r[k] → r[k] ∉ pre ++ r.take k) : rowTo pre r (k + 1) := fun j hj hjk => by
  by_cases he : j = k
  · subst he; exact ⟨h1, h2, h3⟩
  · exact hr j hj (by omega)
theorem tabTo_succ {X : List (List Int)} {f : Nat} (h : f < X.length) (hr : tabTo X f) (h1 : X[f].length = 6) (h2 : rowTo (X.take f).flatten X[f] X[f].length) : tabTo X (f + 1) := fun j hj hjk => by
  by_cases he : j = f
  · subst he; exact ⟨h1, fun k hk => h2 k hk hk⟩
  · exact hr j hj (by omega)
theorem seen_step (pre r : List Int) (k : Nat) (h : k < r.length) : pre ++ r.take (k + 1) = (pre ++ r.take k) ++ [r[k]] := by
  rw [List.take_succ_eq_append_getElem h, List.append_assoc]

set_option maxRecDepth 100000 in
set_option maxHeartbeats 2000000 in
theorem iTableValid_any (F : Nat → Prop) (A : Option Addr) (c : Nat) (X : List (List Int)) (w : World) (h : TabR F w A X) :
    Calls Try.prog 41 #[.agg #[.slice A X.length c]] w (Says w (tabOk X)) := by
  by_cases h8 : X.length = 8
  case neg =>
    go_enter Try.func41, Try.ntmps41
    go_wp2
    go_ret
    exact Says.no (fun hh => h8 hh.1) ((Chg.refl _ _).alloc _)
  obtain ⟨hb1, hb2, hcb⟩ := lit2 w 39 89 #[.slice A X.length c] (seenC []).toArray
  have hse : (seenC []).toArray = #[.bool false, .bool false, .bool false, .bool false, .bool false, .bool false, .bool false, .bool false, .bool false, .bool false, .bool false, .bool false, .bool false, .bool false, .bool false, .bool false, .bool false, .bool false, .bool false, .bool false, .bool false, .bool false, .bool false, .bool false, .bool false, .bool false, .bool false, .bool false, .bool false, .bool false, .bool false, .bool false, .bool false, .bool false, .bool false, .bool false, .bool false, .bool false, .bool false, .bool false, .bool false, .bool false, .bool false, .bool false, .bool false, .bool false, .bool false, .bool false] := by rfl
  rw [hse, h8] at hb1 hb2 hcb
  have HC0 := Lib.hid hcb
  have HB2 := Lib.hid (show Blk _ _ _ (seenC ([] ++ [])).toArray from hse ▸ hb2)
  clear hb1 hb2 hcb hse
  go_enter Try.func41, Try.ntmps41
  go_wp2
  go_loopw [15] (fun i wr => ∃ f : Nat, f ≤ 8 ∧ i = .int .i64 f ∧ Chg NoB w wr ∧ Blk wr (w.heap.size + 1) 89 (seenC (X.take f).flatten).toArray ∧ Hid (tabTo X f)) (fun i _ => 8 - (intOf i).toNat)
  case atStart => exact ⟨0, Nat.zero_le _, rfl, HC0.out, HB2.out, Lib.hid (fun j _ hj => by omega)⟩
  case round =>
    obtain ⟨f, hf8, rfl, hch, hb, hto⟩ := hrel
    by_cases hlt : f < 8
    · have hlt' : f < X.length := by omega
      obtain ⟨ad, B, c', rfl, hfF, hcell, hr, hc1⟩ := (h.lt.new hch) f hlt'
      have hi0 : (0 : Int) ≤ (f : Int) := Int.natCast_nonneg _
      have hi1 : (f : Int) < 8 := by omega
      by_cases h6 : X[f].length = 6
      case neg =>
        have h6' : ((X[f].length : Int) != 6) = true := by rw [bne_iff_ne]; omega
        have HC := Lib.hid hch
        clear hch hb hr
        go_wp2
        go_ret
        exact Says.no (fun hh => h6 (hh.2 f hlt').1) HC.out
      have HC := Lib.hid hch
      have HB := Lib.hid (show Blk wr (w.heap.size + 1) 89 (seenC ((X.take f).flatten ++ X[f].take 0)).toArray by simpa using hb)
      have HR := Lib.hid hr
      clear hch hb hr
      go_wp2
      go_loopw [24] (fun i wi => ∃ k : Nat, k ≤ 6 ∧ i = .int .i64 k ∧ Chg (· = w.heap.size + 1) wr wi ∧ Blk wi (w.heap.size + 1) 89 (seenC ((X.take f).flatten ++ X[f].take k)).toArray ∧ Hid (rowTo (X.take f).flatten X[f] k)) (fun i _ => 6 - (intOf i).toNat)
      case atStart => exact ⟨0, Nat.zero_le _, rfl, Chg.refl _ _, HB.out, Lib.hid (fun j _ hj => by omega)⟩
      case round =>
        obtain ⟨k, hk6, rfl, hch, hb, hrow⟩ := hrel
        by_cases hk : k < 6
        · have hk' : k < X[f].length := by omega
          obtain ⟨ad2, rfl, hf2, hbl2, hck⟩ := ints_at (HR.out.chg hch (fun i hi he => by have := hi.2; omega)) hk'
          have HST := Lib.hid (seen_step (X.take f).flatten X[f] k hk')
          have HRT := Lib.hid (rowTo_succ hk' hrow.out)
          have HBAD := Lib.hid (fun hq : tabOk X => (hq.2 f hlt').2 k hk')
          have HCI := Lib.hid hch
          have HCW := Lib.hid (HC.out.own hch (Nat.le_succ _))
          have hi2 : (0 : Int) ≤ (k : Int) := Int.natCast_nonneg _
          generalize X[f][k] = x at hck HST HRT HBAD
          by_cases hx : -1 ≤ x ∧ x ≤ 47
          case neg =>
            have HX := Lib.hid hx
            clear hx hch hb
            go_wp2_with fail
            refine (pageNumber_f x _ HX.out).mono ?_
            rintro e w' ⟨rfl, rfl⟩
            go_wp2
            go_ret
            exact Says.no (fun hq => HX.out ⟨(HBAD.out hq).1, (HBAD.out hq).2.1⟩) HCW.out
          have HX := Lib.hid hx
          obtain ⟨hx0, hx1⟩ := hx
          by_cases hneg : x < 0
          · have HB2 := Lib.hid hb
            clear hch hb
            go_wp2_with fail
            refine (pageNumber_t x _ HX.out).mono ?_
            rintro e w' ⟨rfl, rfl⟩
            go_wp2
            go_roundw
            case rel =>
              refine ⟨k + 1, by omega, by go_num, HCI.out, ?_, Lib.hid (HRT.out hx0 hx1 (fun h0 => by omega))⟩
              rw [HST.out, seenC_neg _ _ hneg]
              exact HB2.out
            case measure => simp [intOf]; omega
          · obtain ⟨n, rfl⟩ := Int.eq_ofNat_of_zero_le (show 0 ≤ x by omega)
            have hn : n < 48 := by omega
            have hcn : wr.cell? ⟨w.heap.size + 1, n, none⟩ = some (.bool (decide ((n : Int) ∈ (X.take f).flatten ++ X[f].take k))) := by
              rw [hb.cell, List.getElem?_toArray]; exact seenC_get _ n hn
            have hfr := hb.frozen n
            have HB2 := Lib.hid hb
            clear hb hch
            by_cases hm : (n : Int) ∈ (X.take f).flatten ++ X[f].take k
            · rw [decide_eq_true hm] at hcn
              have HM := Lib.hid hm
              clear hm
              go_wp2_with fail
              refine (pageNumber_t _ _ HX.out).mono ?_
              rintro e w' ⟨rfl, rfl⟩
              go_wp2
              go_ret
              exact Says.no (fun hq => (HBAD.out hq).2.2 (by omega) HM.out) HCW.out
            · rw [decide_eq_false hm] at hcn
              have HM := Lib.hid hm
              clear hm
              go_wp2_with fail
              refine (pageNumber_t _ _ HX.out).mono ?_
              rintro e w' ⟨rfl, rfl⟩
              go_wp2
              go_roundw
              case rel =>
                refine ⟨k + 1, by omega, by go_num, HCI.out.setCell (.inl rfl) _, ?_, Lib.hid (HRT.out hx0 hx1 (fun _ => HM.out))⟩
                rw [HST.out, ← seenC_set _ n hn]
                exact HB2.out.set_ n _
              case measure => simp [intOf]; omega
        · obtain rfl : k = 6 := by omega
          have HB2 := Lib.hid hb
          have HCW := Lib.hid (HC.out.own hch (Nat.le_succ _))
          clear hb hch
          go_wp2
          go_roundw
          case rel =>
            refine ⟨f + 1, by omega, by go_num, HCW.out, ?_, Lib.hid (tabTo_succ hlt' hto.out h6 (by rw [h6]; exact hrow.out))⟩
            rw [take_flat_succ X f hlt']
            have := HB2.out
            rwa [List.take_of_length_le (l := X[f]) (i := 6) (by omega)] at this
          case measure => simp [intOf]; omega
    · obtain rfl : f = 8 := by omega
      have HC := Lib.hid hch
      clear hch hb
      go_wp2
      go_ret
      exact Says.yes ⟨h8, fun j hj => hto.out j hj (by omega)⟩ HC.out

theorem info_bool : (Try.prog.info? 4).map (fun i => (i.zero, i.size, i.bytes)) = some (some (.bool false), 1, 1) := by kernel_rfl
theorem seenC_nil : seenC [] = reps 48 [.bool false] := by rfl
set_option maxRecDepth 100000 in
set_option maxHeartbeats 2000000 in
theorem sTableValid_any (F : Nat → Prop) (A : Option Addr) (c : Nat) (X : List (List Int)) (w : World) (h : TabR F w A X) (hl : X.length ≤ 9223372036854775807) (hX : ∀ r ∈ X, r.length ≤ 9223372036854775807) :
    Calls Try.prog 57 #[.agg #[.slice A X.length c]] w (Says w (tabOk X)) := by
  obtain ⟨i0, hi, hz0, hz1, hz2⟩ := info_parts info_bool
  have hmk : ∀ W, (Instr.makeSlice 96 (.int .i64 48) (.int .i64 48)).run Try.prog W = .ok (.slice (some ⟨W.heap.size, 0, none⟩) 48 48) (W.alloc (.cells (reps 48 [.bool false]).toArray 4)) := fun W => run_make_reps (P := Try.prog) 96 4 i0 (.bool false) [.bool false] Try.underlying96 hi hz0 rfl hz1 48 (by rw [hz2]; omega) (by omega) W
  obtain ⟨hb1, hb2, hcb⟩ := lit2 w 39 4 #[.slice A X.length c] (reps 48 [.bool false]).toArray
  have HC0 := Lib.hid hcb
  have HB1 := Lib.hid hb1
  have HB2 := Lib.hid (show Blk _ _ _ (seenC []).toArray from seenC_nil ▸ hb2)
  clear hb1 hb2 hcb
  go_enter Try.func57, Try.ntmps57
  go_wp2
  go_loopw [4] (fun i wr => ∃ f : Nat, f ≤ X.length ∧ i = .int .i64 f ∧ Chg NoB w wr ∧ wr.cell? ⟨w.heap.size, 0, none⟩ = some (.slice A X.length c) ∧ Blk wr (w.heap.size + 1) 4 (seenC (X.take f).flatten).toArray ∧ Hid (tabTo X f)) (fun i _ => X.length - (intOf i).toNat)
  case atStart => exact ⟨0, Nat.zero_le _, rfl, HC0.out, by rw [HB1.out.cell]; rfl, HB2.out, Lib.hid (fun j _ hj => by omega)⟩
  case round =>
    obtain ⟨f, hfl, rfl, hch, z0, hb, hto⟩ := hrel
    by_cases hlt : f < X.length
    · obtain ⟨ad, B, c', rfl, hfF, hcell, hr, hc1⟩ := (h.lt.new hch) f hlt
      have hi0 : (0 : Int) ≤ (f : Int) := Int.natCast_nonneg _
      have hi1 : (f : Int) < (X.length : Int) := by omega
      have hXf := hX _ (List.getElem_mem hlt)
      have HC := Lib.hid hch
      have HB := Lib.hid (show Blk wr (w.heap.size + 1) 4 (seenC ((X.take f).flatten ++ X[f].take 0)).toArray by simpa using hb)
      have HR := Lib.hid hr
      have HAD := Lib.hid (show ∀ wi, Chg (· = w.heap.size + 1) wr wi → wi.cell? (ad.add f) = some (.slice B X[f].length c') from fun wi hq => hq.cell hcell (by rw [block_add]; have := hfF.2; omega))
      have HZ := Lib.hid (show ∀ wi, Chg (· = w.heap.size + 1) wr wi → wi.cell? ⟨w.heap.size, 0, none⟩ = some (.slice (some ad) X.length c) from fun wi hq => hq.cell z0 (by simp))
      clear hch hb hr hcell
      go_wp2
      go_loopw [5] (fun i wi => ∃ k : Nat, k ≤ X[f].length ∧ i = .int .i64 k ∧ Chg (· = w.heap.size + 1) wr wi ∧ Blk wi (w.heap.size + 1) 4 (seenC ((X.take f).flatten ++ X[f].take k)).toArray ∧ Hid (rowTo (X.take f).flatten X[f] k)) (fun i _ => X[f].length - (intOf i).toNat)
      case atStart => exact ⟨0, Nat.zero_le _, rfl, Chg.refl _ _, HB.out, Lib.hid (fun j _ hj => by omega)⟩
      case round =>
        obtain ⟨k, hk6, rfl, hch, hb, hrow⟩ := hrel
        have hcell := HAD.out _ hch
        have z0 := HZ.out _ hch
        by_cases hk : k < X[f].length
        · obtain ⟨ad2, rfl, hf2, hbl2, hck⟩ := ints_at (HR.out.chg hch (fun i hi he => by have := hi.2; omega)) hk
          have HST := Lib.hid (seen_step (X.take f).flatten X[f] k hk)
          have HRT := Lib.hid (rowTo_succ hk hrow.out)
          have HBAD := Lib.hid (fun hq : tabOk X => (hq.2 f hlt).2 k hk)
          have HCI := Lib.hid hch
          have HCW := Lib.hid (HC.out.own hch (Nat.le_succ _))
          have hi2 : (0 : Int) ≤ (k : Int) := Int.natCast_nonneg _
          have hi3 : (k : Int) < (X[f].length : Int) := by omega
          generalize X[f][k] = x at hck HST HRT HBAD
          by_cases hx : -1 ≤ x ∧ x ≤ 47
          case neg =>
            have HX := Lib.hid hx
            clear hx hch hb
            go_wp2_with fail
            refine (l1In_f x _ _ _ HX.out).mono ?_
            rintro e w' ⟨rfl, rfl⟩
            go_wp2
            go_ret
            exact Says.no (fun hq => HX.out ⟨(HBAD.out hq).1, (HBAD.out hq).2.1⟩) HCW.out
          have HX := Lib.hid hx
          obtain ⟨hx0, hx1⟩ := hx
          by_cases hneg : x < 0
          · have HB2 := Lib.hid hb
            clear hch hb
            go_wp2_with fail
            refine (l1In_t x _ _ _ HX.out).mono ?_
            rintro e w' ⟨rfl, rfl⟩
            go_wp2
            go_roundw
            case rel =>
              refine ⟨k + 1, by omega, by go_num, HCI.out, ?_, Lib.hid (HRT.out hx0 hx1 (fun h0 => by omega))⟩
              rw [HST.out, seenC_neg _ _ hneg]
              exact HB2.out
            case measure => simp [intOf]; omega
          · obtain ⟨n, rfl⟩ := Int.eq_ofNat_of_zero_le (show 0 ≤ x by omega)
            have hn : n < 48 := by omega
            have hcn : wr.cell? ⟨w.heap.size + 1, n, none⟩ = some (.bool (decide ((n : Int) ∈ (X.take f).flatten ++ X[f].take k))) := by
              rw [hb.cell, List.getElem?_toArray]; exact seenC_get _ n hn
            have hfr := hb.frozen n
            have HB2 := Lib.hid hb
            clear hb hch
            by_cases hm : (n : Int) ∈ (X.take f).flatten ++ X[f].take k
            · rw [decide_eq_true hm] at hcn
              have HM := Lib.hid hm
              clear hm
              go_wp2_with fail
              refine (l1In_t _ _ _ _ HX.out).mono ?_
              rintro e w' ⟨rfl, rfl⟩
              go_wp2
              go_ret
              exact Says.no (fun hq => (HBAD.out hq).2.2 (by omega) HM.out) HCW.out
            · rw [decide_eq_false hm] at hcn
              have HM := Lib.hid hm
              clear hm
              go_wp2_with fail
              refine (l1In_t _ _ _ _ HX.out).mono ?_
              rintro e w' ⟨rfl, rfl⟩
              go_wp2
              go_roundw
              case rel =>
                refine ⟨k + 1, by omega, by go_num, HCI.out.setCell (.inl rfl) _, ?_, Lib.hid (HRT.out hx0 hx1 (fun _ => HM.out))⟩
                rw [HST.out, ← seenC_set _ n hn]
                exact HB2.out.set_ n _
              case measure => simp [intOf]; omega
        · have hkl : k = X[f].length := by omega
          subst hkl
          have HB2 := Lib.hid hb
          have HCW := Lib.hid (HC.out.own hch (Nat.le_succ _))
          clear hb hch
          by_cases h6 : X[f].length = 6
          · have h6' : ((X[f].length : Int) != 6) = false := by rw [bne_eq_false_iff_eq]; omega
            have H6 := Lib.hid h6
            clear h6
            go_wp2
            go_roundw
            case rel =>
              refine ⟨f + 1, by omega, by go_num, HCW.out, z0, ?_, Lib.hid (tabTo_succ hlt hto.out H6.out hrow.out)⟩
              rw [take_flat_succ X f hlt]
              have := HB2.out
              rwa [List.take_length] at this
            case measure => simp [intOf]; omega
          · have h6' : ((X[f].length : Int) != 6) = true := by rw [bne_iff_ne]; omega
            have H6 := Lib.hid h6
            clear h6
            go_wp2
            go_ret
            exact Says.no (fun hh => H6.out (hh.2 f hlt).1) HCW.out
    · have hfx : f = X.length := by omega
      subst hfx
      have HC := Lib.hid hch
      clear hch hb
      go_wp2
      go_ret
      refine Says.both ?_ HC.out
      constructor
      · intro h8; exact ⟨by have := of_decide_eq_true h8; omega, fun j hj => hto.out j hj hj⟩
      · intro h8; exact decide_eq_true (by have := h8.1; omega)
end Go.Proofs.Ytbgepefdfioljaa
