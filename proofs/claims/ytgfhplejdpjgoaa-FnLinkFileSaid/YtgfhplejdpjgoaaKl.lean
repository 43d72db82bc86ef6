/- The laws FnOrphans and FnLinkFile: the walks. -/
import Derived.Test.YtgfhplejdpjgoaaKk
import Derived.ScratchShow
namespace Go.Proofs.Ytgfhplejdpjgoaa
open Go.RowKit
theorem quiet_left {P : Program} {f : FuncId} {args : Array Value} {w : World} {n : Nat} {v : Value}
    (h : Calls P f args (w.drewN n) fun e w' => e = .returned v ∧ w.drewN n = w') : Calls P f args (w.drewN n) fun e w'' => e = .returned v ∧ ∃ m, w'' = w.drewN m :=
  h.mono fun _ _ ⟨he, hm⟩ => ⟨he, n, hm.symm⟩
theorem hasInt_v (F : Nat → Prop) (A : Option Addr) (c : Nat) (xs : List Int) (n : Int) (w : World) (b : Bool) (h : Rd F w A (icells xs)) (hl : xs.length ≤ 9223372036854775807) (hb : b = true ↔ n ∈ xs) :
    Calls Try.prog 47 #[.slice A xs.length c, .int .i64 n] w fun e w' => e = .returned (.bool b) ∧ w = w' :=
  (hasInt_any F A c xs n w h hl).mono fun e w' ⟨b', he, hb', hw⟩ => ⟨by rw [he]; congr 2; rw [Bool.eq_iff_iff, hb', hb], hw⟩

set_option maxRecDepth 100000 in
set_option maxHeartbeats 2000000 in
theorem FnOrphans_any (A : Option Addr) (c : Nat) (bs : List Nat) (w : World) (h : Rd (fun i => i < w.heap.size) w A (bs.map fun (b : Nat) => Value.int .u8 (b : Int))) (hx : ∀ b ∈ bs, b < 256) (hc : bs.length ≤ c) (_hm : c ≤ maxLen) :
    Calls Try.prog 14 #[.slice A bs.length c] w fun e w' => e = .returned (.bool true) ∧ Chg NoB w w' := by
  by_cases hl : 1048576 < bs.length
  · go_enter Try.func14, Try.ntmps14
    go_wp2
    go_ret
    exact ⟨rfl, Chg.refl _ _⟩
  have hl' : bs.length ≤ 1048576 := by omega
  go_enter Try.func14, Try.ntmps14
  go_wp2_with fail
  refine (DrawOrphans_any A c bs w h hx hc).mono ?_
  rintro e w1 ⟨A', c', xs, rfl, hrd, hle, h8, hc1⟩
  go_wp2_with fail
  refine (iOrphans_any _ A' c' xs _ hrd).mono ?_
  rintro e w2 ⟨A2, c2, ys, rfl, ho2, hy, hc2⟩
  have hrd2 := hrd.lt.chg hc2 (fun _ _ x => x)
  go_wp2_with fail
  refine (sOrphans_any _ A' c' xs _ hrd2 (by omega)).mono ?_
  rintro e w3 ⟨A3, c3, zs, rfl, ho3, hz, hc3⟩
  obtain rfl : zs = ys := by
    by_cases hok : linksOk xs
    · rw [hy.1 hok, hz.1 hok]
    · rw [hy.2 hok, hz.2 hok]
  have hyl : zs.length ≤ 8 := by
    by_cases hok : linksOk xs
    · rw [hy.1 hok]; exact Nat.le_trans (orphN_len _ _) h8
    · rw [hy.2 hok]; simp
  have HY := Lib.hid hy
  clear hy hz
  go_wp2_with fail
  refine (sameInts_t _ _ A2 A3 c2 c3 zs _ (ho2.new hc3).rd ho3.rd (by omega)).mono ?_
  rintro e w4 ⟨rfl, hc4⟩
  have hrd4 := (hrd2.chg hc3 (fun _ _ x => x)).chg hc4 (fun _ _ x => x)
  have hy4 := ((ho2.new hc3).new hc4).rd
  have HC4 := Lib.hid (((hc1.trans hc2).trans hc3).trans hc4)
  clear hc1 hc2 hc3 hc4
  go_wp2_with fail
  go_loopw [5] (fun i wr => ∃ k : Nat, k ≤ xs.length ∧ i = .int .i64 k ∧ Chg NoB w4 wr) (fun i _ => xs.length - (intOf i).toNat)
  case atStart => exact ⟨0, Nat.zero_le _, rfl, Chg.refl _ _⟩
  case round =>
    obtain ⟨k, hk, rfl, hch⟩ := hrel
    have HC := Lib.hid hch
    by_cases hlt : k < xs.length
    · have hrdk := hrd4.chg hch (fun _ _ x => x)
      have hyk := hy4.chg hch (fun _ _ x => x)
      clear hch
      go_wp2_with fail
      refine (iLinksValid_any _ A' c' xs _ hrdk).mono ?_
      rintro e w5 ⟨b, rfl, hb, hc5⟩
      have hrd5 := hrdk.chg hc5 (fun _ _ x => x)
      have hy5 := hyk.chg hc5 (fun _ _ x => x)
      have HC5 := Lib.hid (HC.out.trans hc5)
      have HB := Lib.hid hb
      clear hb hc5 hrdk hyk
      cases b
      · go_wp2_with fail
        refine (iCloseAll_any _ A' c' xs _ hrd5).mono ?_
        rintro e w6 ⟨A6, c6, us, rfl, ho6, hu, hc6⟩
        go_wp2_with fail
        refine (iOrphans_any _ A6 c6 us _ ho6.rd).mono ?_
        rintro e w7 ⟨A7, c7, vs, rfl, ho7, hv, hc7⟩
        obtain rfl : vs = [] := orph_closed hu hv
        go_wp2_with fail
        refine (alive_any _).mono ?_
        rintro e w' ⟨rfl, rfl⟩
        go_wp2
        go_ret
        exact ⟨rfl, ((HC4.out.trans HC5.out).trans hc6).trans hc7⟩
      · have hok : linksOk xs := HB.out.1 rfl
        have hz : zs = orphN xs xs.length := HY.out.1 hok
        have hmem : ((k : Int) ∈ zs) ↔ (xs[k].names = 0 ∧ 0 < xs[k].opens) := by
          rw [hz, orphN_mem _ _ (Nat.le_refl _)]
          exact ⟨fun ⟨_, _, hh⟩ => hh, fun hh => ⟨hlt, hlt, hh⟩⟩
        have HM := Lib.hid hmem
        clear hz hok hmem
        obtain ⟨bb, oo, rfl, hf, hbl, hc0, hc1⟩ := lk_at hrd5 hlt
        have hi0 : (0 : Int) ≤ (k : Int) := Int.natCast_nonneg _
        have hi1 : (k : Int) < (xs.length : Int) := by omega
        by_cases hn : xs[k].names = 0
        · have hn' : (xs[k].names == 0) = true := beq_iff_eq.2 hn
          by_cases ho : 0 < xs[k].opens
          · have ho' : decide (0 < xs[k].opens) = true := decide_eq_true ho
            have HV := Lib.hid (fun W (hW : Rd (fun i => w1.heap.size ≤ i ∧ i < w2.heap.size) W A2 (icells zs)) => hasInt_v _ A2 c2 zs k W true hW (by omega) (by rw [HM.out]; simp [hn, ho]))
            clear hn
            go_wp2
            go_quiet ((go_at_call 47; exact quiet_left (HV.out _ hy5)))
            go_wp2
            go_roundw
            case rel => exact ⟨k + 1, by omega, by go_num, HC5.out.drewN _⟩
            case measure => simp [intOf]; omega
          · have ho' : decide (0 < xs[k].opens) = false := decide_eq_false ho
            have HV := Lib.hid (fun W (hW : Rd (fun i => w1.heap.size ≤ i ∧ i < w2.heap.size) W A2 (icells zs)) => hasInt_v _ A2 c2 zs k W false hW (by omega) (by rw [HM.out]; simp [ho]))
            clear hn
            go_wp2
            go_quiet ((go_at_call 47; exact quiet_left (HV.out _ hy5)))
            go_wp2
            go_roundw
            case rel => exact ⟨k + 1, by omega, by go_num, HC5.out.drewN _⟩
            case measure => simp [intOf]; omega
        · have hn' : (xs[k].names == 0) = false := beq_eq_false_iff_ne.2 hn
          have HV := Lib.hid (fun W (hW : Rd (fun i => w1.heap.size ≤ i ∧ i < w2.heap.size) W A2 (icells zs)) => hasInt_v _ A2 c2 zs k W false hW (by omega) (by rw [HM.out]; simp [hn]))
          go_wp2
          go_quiet ((go_at_call 47; exact quiet_left (HV.out _ hy5)))
          go_wp2
          go_roundw
          case rel => exact ⟨k + 1, by omega, by go_num, HC5.out.drewN _⟩
          case measure => simp [intOf]; omega
    · have hrdk := hrd4.chg hch (fun _ _ x => x)
      clear hch
      go_wp2_with fail
      refine (iCloseAll_any _ A' c' xs _ hrdk).mono ?_
      rintro e w6 ⟨A6, c6, us, rfl, ho6, hu, hc6⟩
      go_wp2_with fail
      refine (iOrphans_any _ A6 c6 us _ ho6.rd).mono ?_
      rintro e w7 ⟨A7, c7, vs, rfl, ho7, hv, hc7⟩
      obtain rfl : vs = [] := orph_closed hu hv
      go_wp2_with fail
      refine (alive_any _).mono ?_
      rintro e w' ⟨rfl, rfl⟩
      go_wp2
      go_ret
      exact ⟨rfl, ((HC4.out.trans HC.out).trans hc6).trans hc7⟩

theorem linked_get {xs : List Lk} {f : Nat} (h : f < xs.length) (n o : Int) {k : Nat} (hk : k < xs.length) (hk' : k < (linked xs f n o).length) (hne : k ≠ f) : (linked xs f n o)[k] = xs[k] := by
  have e := linked_eq h n o
  have : (linked xs f n o)[k]? = xs[k]? := by
    rw [e]
    rcases Nat.lt_or_ge k f with h1 | h1
    · rw [List.getElem?_append_left (by rw [List.length_take]; omega), List.getElem?_take, if_pos h1]
    · have hl : (xs.take f).length = f := by rw [List.length_take]; omega
      rw [List.getElem?_append_right (by omega), hl, List.getElem?_cons, if_neg (by omega), List.getElem?_drop]
      congr 1
      omega
  rw [List.getElem?_eq_getElem hk', List.getElem?_eq_getElem hk] at this
  exact Option.some.inj this
theorem linked_back {xs : List Lk} {f : Nat} (h : f < xs.length) (n o : Int) : linked (linked xs f n o) f (-n) (-o) = xs := by
  have hl : (xs.take f).length = f := by rw [List.length_take]; omega
  have e := linked_eq h n o
  have h2 : f < (linked xs f n o).length := by rw [linked_len h]; exact h
  rw [linked_eq h2]
  have hg : (linked xs f n o)[f] = xs[f].add n o := by
    have : (linked xs f n o)[f]? = some (xs[f].add n o) := by rw [e, List.getElem?_append_right (by omega), hl, Nat.sub_self]; rfl
    rw [List.getElem?_eq_getElem h2] at this
    exact Option.some.inj this
  rw [hg, e]
  have e1 : (xs.take f ++ xs[f].add n o :: xs.drop (f + 1)).take f = xs.take f := by rw [List.take_append_of_le_length (by omega), List.take_take, Nat.min_self]
  have e2 : (xs.take f ++ xs[f].add n o :: xs.drop (f + 1)).drop (f + 1) = xs.drop (f + 1) := by
    rw [List.drop_append, hl, List.drop_of_length_le (by omega), List.nil_append, Nat.add_sub_cancel_left]; rfl
  rw [e1, e2]
  have e3 : (xs[f].add n o).add (-n) (-o) = xs[f] := by
    unfold Lk.add
    have a1 : xs[f].names + n + -n = xs[f].names := by omega
    have a2 : xs[f].opens + o + -o = xs[f].opens := by omega
    simp only [a1, a2]
  rw [e3, ← List.drop_eq_getElem_cons h, List.take_append_drop]
theorem LFile.yes {xs ys : List Lk} {f n o : Int} (h : LFile xs f n o ys true) : LArgs xs f n o ∧ linksOk (linked xs f.toNat n o) ∧ ys = linked xs f.toNat n o := by
  by_cases ha : LArgs xs f n o
  · by_cases hl : linksOk (linked xs f.toNat n o)
    · exact ⟨ha, hl, ((h.2 ha).1 hl).1⟩
    · have := ((h.2 ha).2 hl).2; cases this
  · have := (h.1 ha).2; cases this
theorem LFile.no {xs ys : List Lk} {f n o : Int} (h : LFile xs f n o ys false) : ys = xs ∨ ys = [] := by
  by_cases ha : LArgs xs f n o
  · by_cases hl : linksOk (linked xs f.toNat n o)
    · have := ((h.2 ha).1 hl).2; cases this
    · exact .inl ((h.2 ha).2 hl).1
  · exact .inr (h.1 ha).1

set_option maxRecDepth 100000 in
set_option maxHeartbeats 4000000 in
theorem FnLinkFile_any (A : Option Addr) (c : Nat) (bs : List Nat) (w : World) (h : Rd (fun i => i < w.heap.size) w A (bs.map fun (b : Nat) => Value.int .u8 (b : Int))) (hx : ∀ b ∈ bs, b < 256) (hc : bs.length ≤ c) (_hm : c ≤ maxLen) :
    Calls Try.prog 13 #[.slice A bs.length c] w fun e w' => e = .returned (.bool true) ∧ Chg NoB w w' := by
  by_cases hl : 1048576 < bs.length
  · go_enter Try.func13, Try.ntmps13
    go_wp2
    go_ret
    exact ⟨rfl, Chg.refl _ _⟩
  have hl' : bs.length ≤ 1048576 := by omega
  go_enter Try.func13, Try.ntmps13
  go_wp2_with fail
  refine (DrawLinkFile_any A c bs w h hx hc).mono ?_
  rintro e w1 ⟨A', c', xs, f, n, o, rfl, hrd, hle, h8, hc1⟩
  go_wp2_with fail
  refine (iLinkFile_any _ A' c' xs f n o _ hrd).mono ?_
  rintro e w2 ⟨A2, c2, ys, b2, rfl, ho2, hy, hc2⟩
  have hrd2 := hrd.lt.chg hc2 (fun _ _ x => x)
  go_wp2_with fail
  refine (sLinkFile_any _ A' c' xs f n o _ hrd2 (by omega)).mono ?_
  rintro e w3 ⟨A3, c3, zs, b3, rfl, ho3, hz, hc3⟩
  obtain ⟨rfl, rfl⟩ := LFile.det hy hz
  have hyl : zs.length ≤ 8 := by
    by_cases ha : LArgs xs f n o
    · have hf : f.toNat < xs.length := by have := ha.1.1; have := ha.2.1; have := ha.2.2.1; omega
      by_cases hk : linksOk (linked xs f.toNat n o)
      · rw [((hy.2 ha).1 hk).1, linked_len hf]; exact h8
      · rw [((hy.2 ha).2 hk).1]; exact h8
    · rw [(hy.1 ha).1]; simp
  have HY := Lib.hid hy
  clear hy hz
  go_wp2_with fail
  refine (sameLinks_t _ _ A2 A3 c2 c3 zs _ (ho2.new hc3).rd ho3.rd (by omega)).mono ?_
  rintro e w4 ⟨rfl, hc4⟩
  have hrd4 := (hrd2.chg hc3 (fun _ _ x => x)).chg hc4 (fun _ _ x => x)
  have hy4 := ((ho2.new hc3).new hc4).rd
  have HC4 := Lib.hid (((hc1.trans hc2).trans hc3).trans hc4)
  clear hc1 hc2 hc3 hc4
  cases b3
  · rcases HY.out.no with he | he
    · subst he
      go_wp2_with fail
      refine (sameLinks_t _ _ A2 A' c2 c' zs _ hy4 hrd4 (by omega)).mono ?_
      rintro e w5 ⟨rfl, hc5⟩
      go_wp2_with fail
      refine (alive_any _).mono ?_
      rintro e w' ⟨rfl, rfl⟩
      go_wp2
      go_ret
      exact ⟨rfl, HC4.out.trans hc5⟩
    · subst he
      by_cases hx0 : xs.length = 0
      · obtain rfl : xs = [] := List.eq_nil_of_length_eq_zero hx0
        go_wp2_with fail
        refine (sameLinks_t _ _ A2 A' c2 c' [] _ hy4 hrd4 (by simp)).mono ?_
        rintro e w5 ⟨rfl, hc5⟩
        go_wp2_with fail
        refine (alive_any _).mono ?_
        rintro e w' ⟨rfl, rfl⟩
        go_wp2
        go_ret
        exact ⟨rfl, HC4.out.trans hc5⟩
      · go_wp2_with fail
        refine (sameLinks_f A2 A' 0 xs.length c2 c' _ (by omega)).mono ?_
        rintro e w5 ⟨rfl, hc5⟩
        go_wp2_with fail
        refine (alive_any _).mono ?_
        rintro e w' ⟨rfl, rfl⟩
        go_wp2
        go_ret
        exact ⟨rfl, HC4.out.trans hc5⟩
  · obtain ⟨hargs, hlk, hye⟩ := HY.out.yes
    obtain ⟨hok, a1, a2, a3, a4, a5, a6⟩ := hargs
    obtain ⟨k, rfl⟩ := Int.eq_ofNat_of_zero_le a1
    rw [Int.toNat_natCast] at hlk hye
    have hkx : k < xs.length := by rw [hok.1]; omega
    have HYE := Lib.hid hye
    have hyx : zs.length = xs.length := by rw [hye, linked_len hkx]
    have HLK := Lib.hid hlk
    have HOK := Lib.hid hok
    have HYX := Lib.hid hyx
    clear hlk hye hok hyx
    go_wp2_with fail
    refine (iLinkFile_any _ A2 c2 zs k (-n) (-o) _ hy4).mono ?_
    rintro e w5 ⟨A5, c5, us, b5, rfl, ho5, hu, hc5⟩
    have hback : us = xs ∧ b5 = true := by
      have hy1 : linksOk zs := by rw [HYE.out]; exact HLK.out
      have hb : linked zs k (-n) (-o) = xs := by rw [HYE.out]; exact linked_back hkx n o
      have hla : LArgs zs (k : Int) (-n) (-o) := ⟨hy1, a1, a2, by omega, by omega, by omega, by omega⟩
      have := (hu.2 hla).1 (by rw [Int.toNat_natCast, hb]; exact HOK.out)
      rw [Int.toNat_natCast, hb] at this
      exact this
    obtain ⟨rfl, rfl⟩ := hback
    clear hu
    have hrd5 := hrd4.chg hc5 (fun _ _ x => x)
    have hy5 := hy4.chg hc5 (fun _ _ x => x)
    have hu5 := ho5.rd
    have HC5 := Lib.hid (HC4.out.trans hc5)
    clear hc5 hrd4 hy4 ho5
    go_wp2_with fail
    go_loopw [13] (fun i wr => ∃ j : Nat, j ≤ us.length ∧ i = .int .i64 j ∧ Chg NoB w5 wr) (fun i _ => us.length - (intOf i).toNat)
    case atStart => exact ⟨0, Nat.zero_le _, rfl, Chg.refl _ _⟩
    case round =>
      obtain ⟨j, hj, rfl, hch⟩ := hrel
      have HC := Lib.hid hch
      by_cases hlt : j < us.length
      · by_cases hjk : j = k
        · have hne : ((j : Int) != (k : Int)) = false := by rw [bne_eq_false_iff_eq]; omega
          have HJK := Lib.hid hjk
          clear hjk hch
          go_wp2
          go_quiet (fail)
          go_wp2
          go_roundw
          case rel => exact ⟨j + 1, by omega, by go_num, HC.out.drewN _⟩
          case measure => simp [intOf]; omega
        · have hne : ((j : Int) != (k : Int)) = true := by rw [bne_iff_ne]; omega
          have hlty : j < zs.length := by rw [HYX.out]; exact hlt
          obtain ⟨bb, oo, rfl, hf, hbl, hc0, hc1⟩ := lk_at (hrd5.chg hch fun _ _ x => x) hlt
          obtain ⟨bb', oo', rfl, hf', hbl', hc0', hc1'⟩ := lk_at (hy5.chg hch fun _ _ x => x) hlty
          have hgg : zs[j] = us[j] := by
            have e := HYE.out
            subst e
            exact linked_get hkx n o hlt hlty hjk
          rw [hgg] at hc0' hc1'
          have hi0 : (0 : Int) ≤ (j : Int) := Int.natCast_nonneg _
          have hi1 : (j : Int) < (us.length : Int) := by omega
          have hi2 : (j : Int) < (zs.length : Int) := by omega
          clear hgg hch
          go_wp2
          go_quiet (fail)
          go_wp2
          go_roundw
          case rel => exact ⟨j + 1, by omega, by go_num, HC.out.drewN _⟩
          case measure => simp [intOf]; omega
      · have hy6 := hy5.chg hch (fun _ _ x => x)
        have hrd6 := hrd5.chg hch (fun _ _ x => x)
        have hu6 := hu5.chg hch (fun _ _ x => x)
        clear hch
        go_wp2_with fail
        refine (iLinksValid_any _ A2 c2 zs _ hy6).mono ?_
        rintro e w6 ⟨b6, rfl, hb6, hc6⟩
        obtain rfl : b6 = true := hb6.2 (by rw [HYE.out]; exact HLK.out)
        clear hb6
        go_wp2_with fail
        refine (sameLinks_t _ _ A5 A' c5 c' us _ (hu6.chg hc6 (fun _ _ x => x)) (hrd6.chg hc6 (fun _ _ x => x)) (by omega)).mono ?_
        rintro e w7 ⟨rfl, hc7⟩
        go_wp2
        go_ret
        exact ⟨rfl, ((HC5.out.trans HC.out).trans hc6).trans hc7⟩
end Go.Proofs.Ytgfhplejdpjgoaa
