/- Orphans of the program and of the reference; marks on integers. -/
import Derived.Test.YtgfhplejdpjgoaaKb
namespace Go.Proofs.Ytgfhplejdpjgoaa
open Go.RowKit

/-- The files among the first ones that have no name and are open; the last found stands last. -/
def orphN (xs : List Lk) : Nat → List Int
  | 0 => []
  | k + 1 => match xs[k]? with
    | some l => if l.names = 0 ∧ 0 < l.opens then orphN xs k ++ [(k : Int)] else orphN xs k
    | none => orphN xs k
theorem orphN_hit {xs : List Lk} {k : Nat} (h : k < xs.length) (h1 : xs[k].names = 0) (h2 : 0 < xs[k].opens) : orphN xs (k + 1) = orphN xs k ++ [(k : Int)] := by
  rw [orphN, List.getElem?_eq_getElem h]; exact if_pos ⟨h1, h2⟩
theorem orphN_miss {xs : List Lk} {k : Nat} (h : k < xs.length) (hn : ¬ (xs[k].names = 0 ∧ 0 < xs[k].opens)) : orphN xs (k + 1) = orphN xs k := by
  rw [orphN, List.getElem?_eq_getElem h]; exact if_neg hn
theorem orphN_len (xs : List Lk) (k : Nat) : (orphN xs k).length ≤ k := by
  induction k with
  | zero => simp [orphN]
  | succ k ih =>
    rw [orphN]
    split
    · split
      · rw [List.length_append]; simpa using ih
      · omega
    · omega
def Orph (xs : List Lk) (ys : List Int) : Prop := (linksOk xs → ys = orphN xs xs.length) ∧ (¬ linksOk xs → ys = [])

set_option maxRecDepth 100000 in
set_option maxHeartbeats 2000000 in
theorem iOrphans_any (F : Nat → Prop) (A : Option Addr) (c : Nat) (xs : List Lk) (w : World) (h : Rd F w A (lcells xs)) :
    Calls Try.prog 38 #[.slice A xs.length c] w fun e w' => ∃ A' c' ys, e = .returned (.slice A' ys.length c') ∧ OwnS w.heap.size w'.heap.size w' 3 A' ys.length c' (icells ys) ∧ Orph xs ys ∧ Chg NoB w w' := by
  obtain ⟨i0, hi, hz0, hz1, hz2⟩ := info_parts info_int
  go_enter Try.func38, Try.ntmps38
  go_wp2_with fail
  refine (iLinksValid_any F A c xs w h).mono ?_
  rintro e w1 ⟨b, rfl, hb, hc1⟩
  cases b
  · have hno : ¬ linksOk xs := fun hh => by have := hb.2 hh; cases this
    clear hb
    go_wp2
    go_ret
    exact ⟨none, 0, [], rfl, OwnS.empty _ _ _ _ _ _, ⟨fun hh => absurd hh hno, fun _ => rfl⟩, hc1⟩
  · have HOK := Lib.hid (hb.1 rfl)
    have h8 : xs.length ≤ 8 := by have := HOK.out.1; omega
    clear hb
    go_wp2
    go_loopw [3, 11] (fun v i wr => ∃ (k : Nat) (ys : List Int), k ≤ xs.length ∧ i = .int .i64 k ∧ Chg NoB w wr ∧ wr.ownsRow w.heap.size 3 1 v ys.length (icells ys) ∧ Hid (ys = orphN xs k)) (fun _ i _ => xs.length - (intOf i).toNat)
    case atStart => exact ⟨0, [], Nat.zero_le _, rfl, hc1, World.ownsRow_nil _ _ _ _, Lib.hid rfl⟩
    case round =>
      obtain ⟨k, ys, hk, rfl, hch, how, hys⟩ := hrel
      have HC := Lib.hid hch
      have HO := Lib.hid how
      clear how
      by_cases hlt : k < xs.length
      · obtain ⟨bb, oo, rfl, hf, hbl, hc0, hc1'⟩ := lk_at (h.lt.chg hch fun _ _ x => x) hlt
        have hsz := hch.size
        have hyl : ys.length ≤ k := by rw [hys.out]; exact orphN_len _ _
        clear hch hc1
        by_cases hn : xs[k].names = 0
        · have hn' : (xs[k].names == 0) = true := beq_iff_eq.2 hn
          by_cases ho : 0 < xs[k].opens
          · have HS := Lib.hid (orphN_hit hlt hn ho)
            clear hn
            go_wp2_with (at_builtin; refine wpList_append_own _ rfl (.tmp 24) (.tmp 26) _ rfl w.heap.size 3 i0 (.int .i64 0) 1 8 Try.underlying51 hi hz0 hz1 hz2 rfl (by decide) _ _ _ rfl ((HO.out.alloc _).alloc _) ⟨wr.heap.size + 1, 0, none⟩ 1 1 [.int .i64 k] rfl rfl (cells_new2 _ _ _ _) (by simp [Value.oneCell']) (by simp only [maxLen]; omega) (by omega) (by simp; omega) ?_; intro v' w5 hown' hgrow _)
            go_roundw
            case rel =>
              refine ⟨k + 1, ys ++ [(k : Int)], by omega, by go_num, chg_grown ((HO.out.alloc _).alloc _) hgrow ((HC.out.alloc _).alloc _) (Nat.le_refl _), ?_, Lib.hid (by rw [HS.out, hys.out])⟩
              have e1 : icells (ys ++ [(k : Int)]) = icells ys ++ [Value.int .i64 k] := by simp [icells]
              rw [List.length_append, e1]
              exact hown'
            case measure => simp [intOf]; omega
          · have HS := Lib.hid (orphN_miss hlt (fun hh => ho hh.2))
            clear hn
            go_wp2
            go_roundw
            case rel => exact ⟨k + 1, ys, by omega, by go_num, HC.out.alloc _, HO.out.alloc _, Lib.hid (by rw [HS.out, hys.out])⟩
            case measure => simp [intOf]; omega
        · have hn' : (xs[k].names == 0) = false := beq_eq_false_iff_ne.2 hn
          have HS := Lib.hid (orphN_miss hlt (fun hh => hn hh.1))
          go_wp2
          go_roundw
          case rel => exact ⟨k + 1, ys, by omega, by go_num, HC.out.alloc _, HO.out.alloc _, Lib.hid (by rw [HS.out, hys.out])⟩
          case measure => simp [intOf]; omega
      · have hk' : k = xs.length := by omega
        subst hk'
        obtain ⟨A', c', hv, ho⟩ := OwnS.of_row HO.out
        subst hv
        clear hch
        go_wp2
        go_ret
        exact ⟨A', c', ys, rfl, ho, ⟨fun _ => hys.out, fun hh => absurd HOK.out hh⟩, HC.out⟩

set_option maxRecDepth 100000 in
set_option maxHeartbeats 2000000 in
theorem sOrphans_any (F : Nat → Prop) (A : Option Addr) (c : Nat) (xs : List Lk) (w : World) (h : Rd F w A (lcells xs)) (hm : xs.length ≤ 9223372036854775807) :
    Calls Try.prog 37 #[.slice A xs.length c] w fun e w' => ∃ A' c' ys, e = .returned (.slice A' ys.length c') ∧ OwnS w.heap.size w'.heap.size w' 3 A' ys.length c' (icells ys) ∧ Orph xs ys ∧ Chg NoB w w' := by
  obtain ⟨i0, hi, hz0, hz1, hz2⟩ := info_parts info_int
  go_enter Try.func37, Try.ntmps37
  go_wp2
  go_loopw [3, 4] (fun v i wr => ∃ (k : Nat) (ys : List Int), k ≤ xs.length ∧ i = .int .i64 k ∧ Chg NoB w wr ∧ wr.ownsRow w.heap.size 3 1 v ys.length (icells ys) ∧ Hid (ys = orphN xs k) ∧ Hid (0 < k → linksOk xs)) (fun _ i _ => xs.length - (intOf i).toNat)
  case atStart => exact ⟨0, [], Nat.zero_le _, rfl, (Chg.refl _ _).alloc _, own_empty w _ 1 _ (Nat.le_refl _), Lib.hid rfl, Lib.hid (fun hh => absurd hh (by omega))⟩
  case round =>
    obtain ⟨k, ys, hk, rfl, hch, how, hys, hok⟩ := hrel
    have HC := Lib.hid hch
    have HO := Lib.hid how
    clear how
    by_cases hlt : k < xs.length
    · have hrd := h.lt.chg hch fun _ _ x => x
      clear hch
      go_wp2_with fail
      refine (sLinksValid_any _ A c xs wr hrd hm).mono ?_
      rintro e w1 ⟨b, rfl, hb, hc1⟩
      cases b
      · have hno : ¬ linksOk xs := fun hh => by have := hb.2 hh; cases this
        clear hb
        have hk0 : k = 0 := by
          rcases Nat.eq_zero_or_pos k with h0 | h0
          · exact h0
          · exact absurd (hok.out h0) hno
        subst hk0
        have hy0 : ys = [] := hys.out
        subst hy0
        obtain ⟨A', c', hv, ho⟩ := OwnS.of_row (own_chg HO.out hc1 (fun _ _ x => x))
        subst hv
        go_wp2
        go_ret
        exact ⟨A', c', [], rfl, ho, ⟨fun hh => absurd hh hno, fun _ => rfl⟩, HC.out.trans hc1⟩
      · have HY := Lib.hid (hb.1 rfl)
        have h8 : xs.length ≤ 8 := by have := HY.out.1; omega
        clear hb
        obtain ⟨bb, oo, rfl, hf, hbl, hc0, hc1'⟩ := lk_at (hrd.chg hc1 fun _ _ x => x) hlt
        have hO3 := own_chg HO.out hc1 (fun _ _ x => x)
        have hch3 := HC.out.trans hc1
        have HC3 := Lib.hid hch3
        have hsz := hch3.size
        have hyl : ys.length ≤ k := by rw [hys.out]; exact orphN_len _ _
        clear hc1 hch3
        by_cases hn : xs[k].names = 0
        · have hn' : (xs[k].names == 0) = true := beq_iff_eq.2 hn
          by_cases ho : 0 < xs[k].opens
          · have HS := Lib.hid (orphN_hit hlt hn ho)
            clear hn
            go_wp2_with (at_builtin; refine wpList_append_own _ rfl (.tmp 30) (.tmp 32) _ rfl w.heap.size 3 i0 (.int .i64 0) 1 8 Try.underlying51 hi hz0 hz1 hz2 rfl (by decide) _ _ _ rfl (hO3.alloc _) ⟨w1.heap.size, 0, none⟩ 1 1 [.int .i64 k] rfl rfl (cell_one_new _ _ _) (by simp [Value.oneCell']) (by simp only [maxLen]; omega) (by omega) (by simp; omega) ?_; intro v' w5 hown' hgrow _)
            go_roundw
            case rel =>
              refine ⟨k + 1, ys ++ [(k : Int)], by omega, by go_num, chg_grown (hO3.alloc _) hgrow (HC3.out.alloc _) (Nat.le_refl _), ?_, Lib.hid (by rw [HS.out, hys.out]), Lib.hid fun _ => HY.out⟩
              have e1 : icells (ys ++ [(k : Int)]) = icells ys ++ [Value.int .i64 k] := by simp [icells]
              rw [List.length_append, e1]
              exact hown'
            case measure => simp [intOf]; omega
          · have HS := Lib.hid (orphN_miss hlt (fun hh => ho hh.2))
            clear hn
            go_wp2
            go_roundw
            case rel => exact ⟨k + 1, ys, by omega, by go_num, HC3.out, hO3, Lib.hid (by rw [HS.out, hys.out]), Lib.hid fun _ => HY.out⟩
            case measure => simp [intOf]; omega
        · have hn' : (xs[k].names == 0) = false := beq_eq_false_iff_ne.2 hn
          have HS := Lib.hid (orphN_miss hlt (fun hh => hn hh.1))
          go_wp2
          go_roundw
          case rel => exact ⟨k + 1, ys, by omega, by go_num, HC3.out, hO3, Lib.hid (by rw [HS.out, hys.out]), Lib.hid fun _ => HY.out⟩
          case measure => simp [intOf]; omega
    · have hk' : k = xs.length := by omega
      subst hk'
      obtain ⟨A', c', hv, ho⟩ := OwnS.of_row HO.out
      subst hv
      clear hch
      go_wp2
      go_ret
      refine ⟨A', c', ys, rfl, ho, ⟨fun _ => hys.out, fun hh => ?_⟩, HC.out⟩
      rcases Nat.eq_zero_or_pos xs.length with h0 | h0
      · have := hys.out; rw [h0] at this; exact this
      · exact absurd (hok.out h0) hh
end Go.Proofs.Ytgfhplejdpjgoaa
