/- CloseAll of the program and of the reference. -/
import Derived.Test.YtgfhplejdpjgoaaKb
namespace Go.Proofs.Ytgfhplejdpjgoaa
open Go.RowKit

def Lk.close (l : Lk) : Lk := ⟨l.names, 0⟩
def Closed (xs ys : List Lk) : Prop := (linksOk xs → ys = xs.map Lk.close) ∧ (¬ linksOk xs → ys = [])
theorem lcells_append (xs ys : List Lk) : lcells (xs ++ ys) = lcells xs ++ lcells ys := by unfold lcells; rw [List.flatMap_append]
theorem close_take_succ (xs : List Lk) (k : Nat) (h : k < xs.length) : lcells ((xs.take (k + 1)).map Lk.close) = lcells ((xs.take k).map Lk.close) ++ [.int .i64 xs[k].names, .int .i64 0] := by
  rw [List.take_succ_eq_append_getElem h, List.map_append, lcells_append]; rfl

set_option maxRecDepth 100000 in
set_option maxHeartbeats 1000000 in
theorem iCloseAll_any (F : Nat → Prop) (A : Option Addr) (c : Nat) (xs : List Lk) (w : World) (h : Rd F w A (lcells xs)) :
    Calls Try.prog 30 #[.slice A xs.length c] w fun e w' => ∃ A' c' ys, e = .returned (.slice A' ys.length c') ∧ OwnS w.heap.size w'.heap.size w' 50 A' ys.length c' (lcells ys) ∧ Closed xs ys ∧ Chg NoB w w' := by
  go_enter Try.func30, Try.ntmps30
  go_wp2_with fail
  refine (iLinksValid_any F A c xs w h).mono ?_
  rintro e w1 ⟨b, rfl, hb, hc1⟩
  cases b
  · have hno : ¬ linksOk xs := fun hh => by have := hb.2 hh; cases this
    clear hb
    go_wp2
    go_ret
    exact ⟨none, 0, [], rfl, OwnS.empty _ _ _ _ _ _, ⟨fun hh => absurd hh hno, fun _ => rfl⟩, hc1⟩
  · have hok : linksOk xs := hb.1 rfl
    have HOK := Lib.hid hok
    have h8 : xs.length ≤ 8 := by have := hok.1; omega
    have h80 : 0 < xs.length := by have := hok.1; omega
    clear hb hok
    go_wp2_with fail
    refine (Clone_any F A c xs w1 (h.lt.chg hc1 (fun _ _ x => x) |>.mono (fun _ _ hx => hx.1)) h80 (by omega)).mono ?_
    rintro e w2 ⟨A', c', rfl, hown, hc2⟩
    obtain ⟨hn, hown⟩ := hown
    rcases hown with ⟨h0, _⟩ | ⟨g, rest, rfl, hg, hgE, hb⟩
    · omega
    have HG := Lib.hid (Nat.le_trans hc1.size hg)
    have hch := hc1.trans hc2
    clear hc1 hc2
    go_wp2
    go_loopw [4, 12] (fun _ i wr => ∃ k : Nat, k ≤ xs.length ∧ i = .int .i64 k ∧ Chg NoB w wr ∧ Blk wr g 50 (lcells ((xs.take k).map Lk.close) ++ (lcells (xs.drop k) ++ rest)).toArray) (fun _ i _ => xs.length - (intOf i).toNat)
    case atStart => exact ⟨0, Nat.zero_le _, rfl, hch, hb⟩
    case round =>
      obtain ⟨k, hk, rfl, hch, hb⟩ := hrel
      have HC := Lib.hid hch
      by_cases hlt : k < xs.length
      · rw [lcells_drop xs k hlt] at hb
        have hlen : (lcells ((xs.take k).map Lk.close)).length = k * 2 := by rw [lcells_len, List.length_map, List.length_take]; congr 1; omega
        have hroom2 := Blk.roomAt (B := [.int .i64 xs[k].names]) (j := 1) hb hlen rfl
        have hfr2 := hb.frozen (k * 2 + 1)
        have HF := Lib.hid (Blk.fillAt (B := [.int .i64 xs[k].names]) (j := 1) hb hlen rfl (.int .i64 0))
        have HS := Lib.hid (close_take_succ xs k hlt)
        clear hb hch hlen
        go_wp2
        go_roundw
        case rel =>
          refine ⟨k + 1, by omega, by go_num, HC.out.setCell (p := ⟨g, k * 2 + 1, none⟩) (.inr HG.out) _, ?_⟩
          rw [HS.out, List.append_assoc]
          exact HF.out
        case measure => simp [intOf]; omega
      · have hk' : k = xs.length := by omega
        subst hk'
        have HB := Lib.hid hb
        clear hb hch
        go_wp2
        go_ret
        have hl : (xs.map Lk.close).length = xs.length := by simp
        refine ⟨some ⟨g, 0, none⟩, c', xs.map Lk.close, by rw [hl]; rfl, ?_, ⟨fun _ => rfl, fun hh => absurd HOK.out hh⟩, HC.out⟩
        rw [hl]
        refine ⟨hn, .inr ⟨g, rest, rfl, HG.out, HB.out.lt, ?_⟩⟩
        have := HB.out
        rwa [List.drop_length, List.take_length] at this

set_option maxRecDepth 100000 in
set_option maxHeartbeats 1000000 in
theorem sCloseAll_any (F : Nat → Prop) (A : Option Addr) (c : Nat) (xs : List Lk) (w : World) (h : Rd F w A (lcells xs)) (hm : xs.length ≤ 9223372036854775807) :
    Calls Try.prog 32 #[.slice A xs.length c] w fun e w' => ∃ A' c' ys, e = .returned (.slice A' ys.length c') ∧ OwnS w.heap.size w'.heap.size w' 50 A' ys.length c' (lcells ys) ∧ Closed xs ys ∧ Chg NoB w w' := by
  obtain ⟨i0, hi, hz0, hz1, hz2⟩ := info_parts info_links
  go_enter Try.func32, Try.ntmps32
  go_wp2
  go_loopw [3, 4] (fun v i wr => ∃ k : Nat, k ≤ xs.length ∧ i = .int .i64 k ∧ Chg NoB w wr ∧ wr.ownsRow w.heap.size 50 2 v k (lcells ((xs.take k).map Lk.close)) ∧ Hid (0 < k → linksOk xs)) (fun _ i _ => xs.length - (intOf i).toNat)
  case atStart => exact ⟨0, Nat.zero_le _, rfl, (Chg.refl _ _).alloc _, own_empty w _ 2 _ (Nat.le_refl _), Lib.hid (fun hh => absurd hh (by omega))⟩
  case round =>
    obtain ⟨k, hk, rfl, hch, how, hok⟩ := hrel
    have HC := Lib.hid hch
    have HO := Lib.hid how
    clear how
    by_cases hlt : k < xs.length
    · have hrd := h.lt.chg hch fun _ _ x => x
      clear hch
      go_wp2_with fail
      refine (sLinksValid_any _ A c xs wr hrd hm).mono ?_
      rintro e w1 ⟨b, rfl, hb, hc1⟩
      cases b
      · have hno : ¬ linksOk xs := fun hh => by have := hb.2 hh; cases this
        clear hb
        have hk0 : k = 0 := by
          rcases Nat.eq_zero_or_pos k with h0 | h0
          · exact h0
          · exact absurd (hok.out h0) hno
        subst hk0
        obtain ⟨A', c', hv, ho⟩ := OwnS.of_row (own_chg HO.out hc1 (fun _ _ x => x))
        subst hv
        go_wp2
        go_ret
        exact ⟨A', c', [], rfl, ho, ⟨fun hh => absurd hh hno, fun _ => rfl⟩, HC.out.trans hc1⟩
      · have hyes : linksOk xs := hb.1 rfl
        have h8 : xs.length ≤ 8 := by have := hyes.1; omega
        have HY := Lib.hid hyes
        clear hb hyes
        obtain ⟨bb, oo, rfl, hf, hbl, hc0, hc1'⟩ := lk_at (hrd.chg hc1 fun _ _ x => x) hlt
        have HS := Lib.hid (close_take_succ xs k hlt)
        have hO3 := own_chg HO.out hc1 (fun _ _ x => x)
        have hch3 := HC.out.trans hc1
        have HC3 := Lib.hid hch3
        have hsz := hch3.size
        clear hc1 hch3
        go_wp2_with (at_builtin; refine wpList_append_own _ rfl (.tmp 16) (.tmp 23) _ rfl w.heap.size 50 i0 (.agg #[.int .i64 0, .int .i64 0]) 2 16 Try.underlying25 hi hz0 hz1 hz2 rfl (by decide) _ _ _ rfl (hO3.alloc _) ⟨w1.heap.size, 0, none⟩ 1 1 [.int .i64 xs[k].names, .int .i64 0] rfl rfl (cells_new _ _ _) (by simp [Value.oneCell']) (by simp only [maxLen]; omega) (by omega) (by simp; omega) ?_; intro v' w5 hown' hgrow _)
        go_roundw
        case rel =>
          refine ⟨k + 1, by omega, by go_num, chg_grown (hO3.alloc _) hgrow (HC3.out.alloc _) (Nat.le_refl _), ?_, Lib.hid fun _ => HY.out⟩
          rw [HS.out]
          exact hown'
        case measure => simp [intOf]; omega
    · have hk' : k = xs.length := by omega
      subst hk'
      obtain ⟨A', c', hv, ho⟩ := OwnS.of_row HO.out
      subst hv
      clear hch
      go_wp2
      go_ret
      have hl : (xs.map Lk.close).length = xs.length := by simp
      refine ⟨A', c', xs.map Lk.close, by rw [hl]; rfl, by rw [hl]; have := ho; rwa [List.take_length] at this, ⟨fun _ => rfl, fun hh => ?_⟩, HC.out⟩
      rcases Nat.eq_zero_or_pos xs.length with h0 | h0
      · rw [List.eq_nil_of_length_eq_zero h0]; rfl
      · exact absurd (hok.out h0) hh
end Go.Proofs.Ytgfhplejdpjgoaa
