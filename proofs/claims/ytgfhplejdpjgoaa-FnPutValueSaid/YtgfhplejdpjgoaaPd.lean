/- The law FnPutValue: the walk. -/
import Derived.Test.YtgfhplejdpjgoaaPc
namespace Go.Proofs.Ytgfhplejdpjgoaa
open Go.RowKit
theorem lastVal_snoc (f p : Int) (xs : List Pt) (v : Int) : lastVal f p (xs ++ [⟨f, p, v⟩]) = v := by
  unfold lastVal; rw [List.foldl_append]; simp

set_option maxRecDepth 100000 in
set_option maxHeartbeats 2000000 in
theorem FnPutValue_any (A : Option Addr) (c : Nat) (bs : List Nat) (w : World) (h : Rd (fun i => i < w.heap.size) w A (bs.map fun (b : Nat) => Value.int .u8 (b : Int))) (hx : ∀ b ∈ bs, b < 256) (hc : bs.length ≤ c) (_hm : c ≤ maxLen) :
    Calls Try.prog 8 #[.slice A bs.length c] w fun e w' => e = .returned (.bool true) ∧ Chg NoB w w' := by
  obtain ⟨i0, hi, hz0, hz1, hz2⟩ := info_parts info_put
  by_cases hl : 1048576 < bs.length
  · go_enter Try.func8, Try.ntmps8
    go_wp2
    go_ret
    exact ⟨rfl, Chg.refl _ _⟩
  have hl' : bs.length ≤ 1048576 := by omega
  go_enter Try.func8, Try.ntmps8
  go_wp2_with fail
  refine (DrawPutValue_any A c bs w h hx hc).mono ?_
  rintro e w1 ⟨ad, c', xs, f, p, rfl, hf0, hf1, hp0, hp1, hrd, hle, h8, hc1⟩
  go_wp2_with fail
  refine (iPutValue_any _ (some ad) c' xs f p _ hrd).mono ?_
  rintro e w2 ⟨v, rfl, hv1, hv2, hc2⟩
  have hrd2 := hrd.lt.chg hc2 (fun _ _ x => x)
  go_wp2_with fail
  refine (sPutValue_any _ (some ad) c' xs f p _ hrd2 (by omega)).mono ?_
  rintro e w3 ⟨v', rfl, hv1', hv2', hc3⟩
  obtain rfl : v' = v := by
    by_cases hok : putsOk xs
    · rw [hv1 hok, hv1' hok]
    · rw [hv2 hok, hv2' hok]
  have hvr : -1 ≤ v' ∧ v' ≤ 9999 := by
    by_cases hok : putsOk xs
    · rw [hv1 hok]; exact lastVal_lo f p xs hok
    · rw [hv2 hok]; omega
  obtain ⟨hva, hvb⟩ := hvr
  have hrd3 := hrd2.chg hc3 (fun _ _ x => x)
  have HC3 := Lib.hid ((hc1.trans hc2).trans hc3)
  have hbb : (v' != v') = false := by simp
  clear hv1 hv2 hv1' hv2' hc1 hc2 hc3
  have hca := (Chg.refl NoB w3).alloc (.cells #[] 39)
  have Hn := Lib.hid (rd_newsP hrd3 hca)
  have Hl := Lib.hid (pcells_len xs)
  have hone := pcells_one xs
  have HO := Lib.hid (own_empty w3 39 3 _ (Nat.le_refl _))
  have HCA := Lib.hid hca
  clear hca hrd hrd2 hrd3
  go_wp2_with first
    | (at_builtin; refine wpList_append_own _ rfl (.tmp 27) (.tmp 28) _ rfl w3.heap.size 39 i0 (.agg #[.int .i64 0, .int .i64 0, .int .i64 0]) 3 24 Try.underlying32 hi hz0 hz1 hz2 rfl (by decide) _ 0 [] rfl HO.out ad xs.length c' (pcells xs) rfl Hl.out Hn.out hone (by simp only [maxLen]; omega) (by omega) (by simp) ?_; intro v4 w4 hown4 hgrow _; have hc4 := chg_grown HO.out hgrow HCA.out (Nat.le_refl _); have HC4 := Lib.hid (HC3.out.trans hc4); have hsz4 := hc4.size; rw [Nat.zero_add, List.nil_append] at hown4; have HO4 := Lib.hid hown4; clear hgrow hc4 hown4)
    | (at_builtin; refine wpList_append_own _ rfl (.tmp 29) (.tmp 33) _ rfl w3.heap.size 39 i0 (.agg #[.int .i64 0, .int .i64 0, .int .i64 0]) 3 24 Try.underlying32 hi hz0 hz1 hz2 rfl (by decide) _ _ _ rfl (HO4.out.alloc _) ⟨w4.heap.size, 0, none⟩ 1 1 [.int .i64 f, .int .i64 p, .int .i64 7] rfl rfl (cells_new _ _ _) (by simp [Value.oneCell']) (by simp only [maxLen]; omega) (by omega) (by simp; omega) ?_; intro v5 w5 hown5 hgrow _; have HC5 := Lib.hid (chg_grown (HO4.out.alloc _) hgrow (HC4.out.alloc _) HC3.out.size); obtain ⟨A5, c5, hv5, hle5, hrd5⟩ := own_rd hown5; subst hv5; rw [← pcells_snoc] at hrd5; clear hown5 hgrow)
  have hcv := iPutsValid_any _ A5 c5 (xs ++ [⟨f, p, 7⟩]) w5 hrd5
  rw [List.length_append] at hcv
  refine hcv.mono ?_
  rintro e w6 ⟨b6, rfl, hb6, hc6⟩
  have hrd6 := hrd5.lt.chg hc6 (fun _ _ x => x)
  have HC6 := Lib.hid (HC5.out.trans hc6)
  have HB6 := Lib.hid hb6
  clear hcv hb6 hc6 hrd5
  cases b6
  · go_wp2_with fail
    refine (alive_any _).mono ?_
    rintro e w' ⟨rfl, rfl⟩
    go_wp2
    go_ret
    exact ⟨rfl, HC6.out⟩
  · have hcv := iPutValue_any _ A5 c5 (xs ++ [⟨f, p, 7⟩]) f p w6 hrd6
    rw [List.length_append] at hcv
    have HCV := Lib.hid hcv
    clear hcv
    go_wp2_with fail
    refine HCV.out.mono ?_
    rintro e w7 ⟨v7, rfl, hv7, _, hc7⟩
    obtain rfl : v7 = 7 := by rw [hv7 (HB6.out.1 (by trivial)), lastVal_snoc]
    go_wp2_with fail
    refine (alive_any _).mono ?_
    rintro e w' ⟨rfl, rfl⟩
    go_wp2
    go_ret
    exact ⟨rfl, HC6.out.trans hc7⟩
end Go.Proofs.Ytgfhplejdpjgoaa
