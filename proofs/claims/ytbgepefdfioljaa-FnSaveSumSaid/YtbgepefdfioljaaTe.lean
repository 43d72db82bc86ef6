/- The draw for SaveSum, and the law FnSaveSum. -/
import Derived.Test.YtbgepefdfioljaaTs
import Derived.Test.YtbgepefdfioljaaDa
import Derived.Maps.AppendAt
namespace Go.Proofs.Ytbgepefdfioljaa
open Go.RowKit
theorem own_some {w : World} {B size n : Nat} {e : TypeId} {v : Value} {xs : List Value} (h : w.ownsRow B e size v n xs) (hv : v ≠ .slice none 0 0) : ∃ ad c, v = .slice (some ad) n c ∧ n ≤ c ∧ Rd (fun i => B ≤ i) w (some ad) xs := by
  obtain ⟨A, c, rfl, hn, hr⟩ := own_rd h
  rcases h.2 with ⟨h1, _⟩ | ⟨g, cap, cur, h1, _⟩
  · exact absurd h1 hv
  · cases h1
    exact ⟨_, _, rfl, hn, hr⟩
theorem icells_snoc (ys : List Int) (y : Int) : icells (ys ++ [y]) = icells ys ++ [Value.int .i64 y] := by simp [icells]
def SumDraw (w : World) (e : Ending) (w' : World) : Prop :=
  ∃ n ad c xs, e = .returned (.tuple #[.int .i64 n, .slice (some ad) xs.length c]) ∧ Chg NoB w w' ∧ Rd (fun i => w.heap.size ≤ i) w' (some ad) (icells xs) ∧ xs.length ≤ c ∧ xs.length ≤ 50
theorem results_tmp2' {fn : Func} {t u : Tmp} (h : fn.results = #[.tmp t, .tmp u]) (tmps : Array Value) (P : Program) (w : World) :
    (results fn tmps).run P w = .ok (.tuple #[tmps.getD t undef, tmps.getD u undef]) w := by simp [results, h]

set_option maxRecDepth 100000 in
set_option maxHeartbeats 4000000 in
theorem DrawSaveSum_any (A : Option Addr) (c : Nat) (bs : List Nat) (w : World) (h : Rd (fun i => i < w.heap.size) w A (bs.map fun (b : Nat) => Value.int .u8 (b : Int))) (hx : ∀ b ∈ bs, b < 256) (hc : bs.length ≤ c) :
    Calls Try.prog 17 #[.slice A bs.length c] w (SumDraw w) := by
  obtain ⟨i0, hi, hz0, hz1, hz2⟩ := info_parts info_int
  have hmk : ∀ W, (Instr.makeSlice 22 (.int .i64 49) (.int .i64 49)).run Try.prog W = .ok (.slice (some ⟨W.heap.size, 0, none⟩) 49 49) (W.alloc (.cells (reps 49 [.int .i64 0]).toArray 3)) :=
    fun W => run_make_reps (P := Try.prog) 22 3 i0 (.int .i64 0) [.int .i64 0] Try.underlying22 hi hz0 rfl hz1 49 (by rw [hz2]; omega) (by omega) W
  go_enter Try.func17, Try.ntmps17
  go_wp2_with fail
  refine (l20Open_any A c bs w h hx hc).mono ?_
  rintro e w1 ⟨g, rfl, hg, hc1, hr1⟩
  have Hg := Lib.hid hg
  clear hg
  go_wp2_with fail
  have hc2 := hc1.alloc (.cells #[] 3)
  have hl1 := hr1.lt
  refine (pick_any g 0 9 _ (hr1.alloc _) (by omega) (by omega) (by omega)).mono ?_
  rintro e w2 ⟨k, rfl, hk, hc3, hr3⟩
  have hc4 := hc2.own hc3 (by rw [Hg.out]; exact Nat.le_refl _)
  have hw0 := own_chg (own_empty w1 3 1 (g + 1) hl1) hc3 (fun i hi => by omega)
  go_wp2_with fail
  have hk9 : k ≤ 8 := by omega
  clear hc2 hc3
  go_loopw [5, 6] (fun v i wr => ∃ (k N : Nat) (ys : List Int), i = .int .i64 k ∧ k ≤ 8 ∧ Rdr wr g N ∧ N + 2 * k ≤ 100 ∧ Chg NoB w wr ∧ wr.ownsRow (g + 1) 3 1 v ys.length (icells ys) ∧ ys.length + k ≤ 8 ∧ v ≠ .slice none 0 0) (fun _ i _ => (intOf i).toNat)
  case atStart => exact ⟨k, 1, [], rfl, hk9, hr3, by omega, hc4, hw0, by simpa using hk9, by simp⟩
  case round =>
    obtain ⟨k, N, ys, rfl, hk, hr, hN, hch, how, hys, hvn⟩ := hrel
    by_cases hlt : 0 < k
    · have HC := Lib.hid hch
      have HO := Lib.hid how
      clear hch how
      go_wp2_with fail
      refine (pick_any g N 49 _ hr (by omega) (by omega) (by omega)).mono ?_
      rintro e w3 ⟨j, rfl, hj, hd1, hr'⟩
      have HD1 := Lib.hid hd1
      clear hd1
      go_wp2_with fail
      obtain ⟨hO1, hO2, hcb⟩ := lit2 w3 3 3 #[.int .i64 ((j : Int) - 1), .int .i64 48, .int .i64 (-2)] #[.int .i64 0, .int .i64 0, .int .i64 0, .int .i64 0, .int .i64 0, .int .i64 0, .int .i64 0, .int .i64 0, .int .i64 0, .int .i64 0, .int .i64 0, .int .i64 0, .int .i64 1, .int .i64 2]
      have hlt3 := hr'.lt
      refine (pick_any g (N + 1) 14 _ ((hr'.alloc _).alloc _) (by omega) (by omega) (by omega)).mono ?_
      rintro e w4 ⟨l, rfl, hl, hd2, hr4⟩
      obtain ⟨x, hx1, hx4⟩ := lit_nat (hO2.chg hd2 (by omega)) 3 l (by simp; omega) (by simp)
      obtain ⟨y, hy1⟩ := lit_cell (hO1.chg hd2 (by omega)) x (by simp; omega) (by simp)
      have hO3 := own_chg (own_chg (own_chg HO.out HD1.out (fun i hi => by omega)) hcb (fun _ _ x => x)) hd2 (fun i hi => by omega)
      have hch4 := (((HC.out.own HD1.out (by rw [Hg.out]; exact Nat.le_refl _)).trans' hcb (fun _ h => h.elim)).own hd2 (by rw [Hg.out]; exact Nat.le_refl _))
      have HCH := Lib.hid hch4
      have hlt4 := hr4.lt
      clear hd2 hO1 hO2 hcb hch4
      go_wp2_with (at_builtin; refine wpList_append_own _ rfl (.tmp 16) (.tmp 28) _ rfl (g + 1) 3 i0 (.int .i64 0) 1 8 Try.underlying22 hi hz0 hz1 hz2 rfl (by decide) _ _ _ rfl (hO3.alloc _) ⟨w4.heap.size, 0, none⟩ 1 1 [.int .i64 y] rfl rfl (cell_one_new _ _ _) (by simp [Value.oneCell']) (by simp only [maxLen]; omega) (by omega) (by simp; omega) ?_; intro v' w5 hown' hgrow hne)
      have hN5 : N + 1 + 1 + 2 * (k - 1) ≤ 100 := by omega
      have hrd5 : Rdr w5 g (N + 1 + 1) := (hr4.alloc _).grown hgrow (fun k hk => (hO3.lt k hk).1)
      go_roundw
      case rel =>
        refine ⟨k - 1, N + 1 + 1, ys ++ [y], by go_num, by omega, hrd5, hN5, chg_grown (hO3.alloc _) hgrow (HCH.out.alloc _) (by rw [Hg.out]; omega), ?_, by simp; omega, fun e => absurd (hne.1 e).2 (by omega)⟩
        rw [List.length_append, icells_snoc]
        exact hown'
      case measure => simp [intOf]; omega
    · have HC := Lib.hid hch
      have HO := Lib.hid how
      clear hch how
      go_wp2_with fail
      refine (odd_any g N 14 _ hr (by omega) (by omega) (by omega)).mono ?_
      rintro e w3 ⟨b, rfl, _, hd1, hr'⟩
      have hch3 := HC.out.own hd1 (by rw [Hg.out]; exact Nat.le_refl _)
      have how3 := own_chg HO.out hd1 (fun i hi => by omega)
      obtain ⟨A', c', hv, hle, hrd⟩ := own_some how3 hvn
      subst hv
      have HB := Lib.hid (hrd.mono (G := fun i => g + 1 ≤ i) (fun i _ hi => hi))
      have HC3 := Lib.hid hch3
      clear hch3 how3 hrd hd1 HC HO
      cases b
      · go_wp2_with fail
        refine (pick_any g _ 256 _ hr' (by omega) (by omega) (by omega)).mono ?_
        rintro e w4 ⟨k4, rfl, hk4, hd4, hr4⟩
        go_wp2_with fail
        obtain ⟨hO1, hO2, hcb⟩ := lit2 w4 3 3 #[.int .i64 ((k4 : Int) * 3900), .int .i64 1000000, .int .i64 1000001, .int .i64 (-1)] #[.int .i64 0, .int .i64 0, .int .i64 0, .int .i64 0, .int .i64 1, .int .i64 2, .int .i64 3]
        have hlt4 := hr4.lt
        refine (pick_any g _ 7 _ ((hr4.alloc _).alloc _) (by omega) (by omega) (by omega)).mono ?_
        rintro e w5 ⟨l, rfl, hl, hd5, hr5⟩
        obtain ⟨x, hx1, hx4⟩ := lit_nat (hO2.chg hd5 (by omega)) 4 l (by simp; omega) (by simp)
        obtain ⟨y, hy1⟩ := lit_cell (hO1.chg hd5 (by omega)) x (by simp; omega) (by simp)
        have HC5 := Lib.hid ((((HC3.out.own hd4 (by rw [Hg.out]; exact Nat.le_refl _)).trans' hcb (fun _ h => h.elim)).own hd5 (by rw [Hg.out]; exact Nat.le_refl _)))
        have HB5 := Lib.hid (((HB.out.chg hd4 (fun i hi he => by omega)).chg hcb (fun _ _ x => x)).chg hd5 (fun i hi he => by omega))
        clear hd4 hd5 hcb hO1 hO2
        go_wp2_with fail
        (try simp only [Exit.inBlock, Exit.then])
        refine bodyPost_ret (results_tmp2' rfl _ _ _) rfl ?_
        exact ⟨y, A', c', ys, rfl, HC5.out, HB5.out.mono (fun i _ hi => by have := Hg.out; omega), hle, by omega⟩
      · have HB' := Lib.hid (((Blk.new w3 3 (reps 49 [.int .i64 0]).toArray).rd).mono (G := fun i => g + 1 ≤ i) (fun i _ hi => by subst hi; have := hr'.lt; omega))
        have hra := hr'.alloc (.cells (reps 49 [.int .i64 0]).toArray 3)
        have HCA := Lib.hid (HC3.out.alloc (.cells (reps 49 [.int .i64 0]).toArray 3))
        go_wp2_with fail
        refine (pick_any g _ 256 _ hra (by omega) (by omega) (by omega)).mono ?_
        rintro e w4 ⟨k4, rfl, hk4, hd4, hr4⟩
        go_wp2_with fail
        obtain ⟨hO1, hO2, hcb⟩ := lit2 w4 3 3 #[.int .i64 ((k4 : Int) * 3900), .int .i64 1000000, .int .i64 1000001, .int .i64 (-1)] #[.int .i64 0, .int .i64 0, .int .i64 0, .int .i64 0, .int .i64 1, .int .i64 2, .int .i64 3]
        have hlt4 := hr4.lt
        refine (pick_any g _ 7 _ ((hr4.alloc _).alloc _) (by omega) (by omega) (by omega)).mono ?_
        rintro e w5 ⟨l, rfl, hl, hd5, hr5⟩
        obtain ⟨x, hx1, hx4⟩ := lit_nat (hO2.chg hd5 (by omega)) 4 l (by simp; omega) (by simp)
        obtain ⟨y, hy1⟩ := lit_cell (hO1.chg hd5 (by omega)) x (by simp; omega) (by simp)
        have HC5 := Lib.hid ((((HCA.out.own hd4 (by rw [Hg.out]; exact Nat.le_refl _)).trans' hcb (fun _ h => h.elim)).own hd5 (by rw [Hg.out]; exact Nat.le_refl _)))
        have HB5 := Lib.hid (((HB'.out.chg hd4 (fun i hi he => by omega)).chg hcb (fun _ _ x => x)).chg hd5 (fun i hi he => by omega))
        clear hd4 hd5 hcb hO1 hO2
        go_wp2_with fail
        (try simp only [Exit.inBlock, Exit.then])
        refine bodyPost_ret (results_tmp2' rfl _ _ _) rfl ?_
        refine ⟨y, ⟨w3.heap.size, 0, none⟩, 49, List.replicate 49 0, rfl, HC5.out, ?_, by simp, by simp⟩
        rw [icells_zeros]
        exact HB5.out.mono (fun i _ hi => by have := Hg.out; omega)
theorem cells_one (xs : List Int) : ∀ u ∈ icells xs, u.oneCell' = true := by
  intro u hu
  obtain ⟨x, _, rfl⟩ := List.mem_map.1 hu
  rfl
theorem rd_news {F : Nat → Prop} {w w' : World} {ad : Addr} {xs : List Value} (h : Rd F w (some ad) xs) (hc : Chg NoB w w') : ∀ j u, xs[j]? = some u → w'.cell? (ad.add j) = some u := fun j u hj => by
  obtain ⟨ad', e, _, hcell⟩ := h j u hj
  cases e
  exact hc.cell hcell (fun x => x)
theorem sumArgs_snoc {n : Int} {xs : List Int} (h : sumArgs n xs) (hl : xs.length ≠ 48) {x : Int} (h1 : -1 ≤ x) (h2 : x ≤ 47) : sumArgs n (xs ++ [x]) := by
  obtain ⟨a, b, c, d⟩ := h
  refine ⟨a, b, by simp; omega, fun y hy => ?_⟩
  rcases List.mem_append.1 hy with h3 | h3
  · exact d y h3
  · simp at h3; subst h3; exact ⟨h1, h2⟩
theorem sum_parts {n : Int} {xs : List Int} (h : 0 ≤ saveSum n xs) (hl : xs.length ≠ 48) : saveSum n (xs ++ [5]) ≠ saveSum n (xs ++ [6]) := by
  have ha : sumArgs n xs := by
    by_cases ha : sumArgs n xs
    · exact ha
    · rw [saveSum_f ha] at h; omega
  rw [saveSum_t (sumArgs_snoc ha hl (by omega) (by omega)), saveSum_t (sumArgs_snoc ha hl (by omega) (by omega)), sumTo_snoc, sumTo_snoc]
  omega

set_option maxRecDepth 100000 in
set_option maxHeartbeats 2000000 in
theorem FnSaveSum_any (A : Option Addr) (c : Nat) (bs : List Nat) (w : World) (h : Rd (fun i => i < w.heap.size) w A (bs.map fun (b : Nat) => Value.int .u8 (b : Int))) (hx : ∀ b ∈ bs, b < 256) (hc : bs.length ≤ c) (_hm : c ≤ maxLen) :
    Calls Try.prog 4 #[.slice A bs.length c] w fun e w' => e = .returned (.bool true) ∧ Chg NoB w w' := by
  obtain ⟨i0, hi, hz0, hz1, hz2⟩ := info_parts info_int
  by_cases hl : 1048576 < bs.length
  · go_enter Try.func4, Try.ntmps4
    go_wp2
    go_ret
    exact ⟨rfl, Chg.refl _ _⟩
  have hl' : bs.length ≤ 1048576 := by omega
  go_enter Try.func4, Try.ntmps4
  go_wp2_with fail
  refine (DrawSaveSum_any A c bs w h hx hc).mono ?_
  rintro e w1 ⟨n, ad, c', xs, rfl, hc1, hrd, hle, h50⟩
  have HC1 := Lib.hid hc1
  clear hc1
  go_wp2_with fail
  refine (iSaveSum_any _ (some ad) c' n xs _ hrd).mono ?_
  rintro e w' ⟨s, rfl, hs, rfl⟩
  go_wp2_with fail
  refine (sSaveSum_any _ (some ad) c' n xs _ hrd).mono ?_
  rintro e w' ⟨s', rfl, hs', rfl⟩
  obtain rfl : s' = s := hs'.out.trans hs.out.symm
  have hss : (s' != s') = false := by simp
  have hrange : -1 ≤ s' ∧ s' < 99991 := by rw [hs.out]; exact saveSum_lo n xs
  have HP := Lib.hid (show 0 ≤ s' → xs.length ≠ 48 → saveSum n (xs ++ [5]) ≠ saveSum n (xs ++ [6]) by rw [hs.out]; exact sum_parts)
  obtain ⟨hs0, hs1⟩ := hrange
  clear hs hs'
  by_cases hneg : s' < 0
  · go_wp2_with fail
    refine (alive_any _).mono ?_
    rintro e w' ⟨rfl, rfl⟩
    go_wp2
    go_ret
    exact ⟨rfl, HC1.out⟩
  by_cases h48 : xs.length = 48
  · have h48' : ((xs.length : Int) == 48) = true := by rw [beq_iff_eq]; omega
    have H48 := Lib.hid h48
    clear h48
    go_wp2_with fail
    refine (alive_any _).mono ?_
    rintro e w' ⟨rfl, rfl⟩
    go_wp2
    go_ret
    exact ⟨rfl, HC1.out⟩
  have h48' : ((xs.length : Int) == 48) = false := by rw [beq_eq_false_iff_ne]; omega
  have HNE := Lib.hid (HP.out (by omega) h48)
  have hlen := icells_length xs
  have HL := Lib.hid hlen
  have hone := Lib.hid (cells_one xs)
  have HRD := Lib.hid hrd
  have hlx : xs.length ≤ 50 := h50
  clear hrd hlen HP h48
  have HCA := Lib.hid ((Chg.refl NoB w1).alloc (.cells #[] 3))
  have HO := Lib.hid (own_empty w1 3 1 _ (Nat.le_refl _))
  go_wp2_with first
    | (at_builtin; refine wpList_append_own _ rfl (.tmp 37) (.tmp 38) _ rfl w1.heap.size 3 i0 (.int .i64 0) 1 8 Try.underlying22 hi hz0 hz1 hz2 rfl (by decide) _ 0 [] rfl HO.out ad xs.length c' (icells xs) rfl (by rw [HL.out, Nat.mul_one]) (rd_news HRD.out HCA.out) hone.out (by simp only [maxLen]; omega) (by omega) (by simp) ?_; intro v4 w4 hown4 hgrow _; have hc4 := chg_grown HO.out hgrow HCA.out (Nat.le_refl _); have HC4 := Lib.hid (HC1.out.trans hc4); have HD4 := Lib.hid hc4; have hsz4 := hc4.size; rw [Nat.zero_add, List.nil_append] at hown4; have HO4 := Lib.hid hown4; clear hgrow hc4 hown4)
    | (at_builtin; refine wpList_append_own _ rfl (.tmp 39) (.tmp 40) _ rfl w1.heap.size 3 i0 (.int .i64 0) 1 8 Try.underlying22 hi hz0 hz1 hz2 rfl (by decide) _ _ _ rfl (HO4.out.alloc _) ⟨w4.heap.size, 0, none⟩ 1 1 [.int .i64 5] rfl rfl (cells_new _ _ _) (by simp [Value.oneCell']) (by simp only [maxLen]; omega) (by omega) (by simp; omega) ?_; intro v5 w5 hown5 hgrow _; have HC5 := Lib.hid (chg_grown (HO4.out.alloc _) hgrow (HC4.out.alloc _) HC1.out.size); have HD5 := Lib.hid (chg_grown (HO4.out.alloc _) hgrow (HD4.out.alloc _) (Nat.le_refl _)); obtain ⟨A5, c5, hv5, hle5, hrd5⟩ := own_rd hown5; subst hv5; rw [← icells_snoc] at hrd5; clear hown5 hgrow)
  have hcv := iSaveSum_any _ A5 c5 n (xs ++ [5]) w5 hrd5
  rw [List.length_append] at hcv
  refine hcv.mono ?_
  rintro e w' ⟨s5, rfl, hs5, rfl⟩
  have HRD6 := Lib.hid (HRD.out.lt.new HD5.out)
  clear hcv hrd5
  have HCB := Lib.hid ((Chg.refl NoB w5).alloc (.cells #[] 3))
  have HOB := Lib.hid (own_empty w5 3 1 _ (Nat.le_refl _))
  go_wp2_with first
    | (at_builtin; refine wpList_append_own _ rfl (.tmp 44) (.tmp 45) _ rfl w5.heap.size 3 i0 (.int .i64 0) 1 8 Try.underlying22 hi hz0 hz1 hz2 rfl (by decide) _ 0 [] rfl HOB.out ad xs.length c' (icells xs) rfl (by rw [HL.out, Nat.mul_one]) (rd_news HRD6.out HCB.out) hone.out (by simp only [maxLen]; omega) (by omega) (by simp) ?_; intro v6 w6 hown6 hgrow _; have hc6 := chg_grown HOB.out hgrow HCB.out (Nat.le_refl _); have HC6 := Lib.hid (HC5.out.trans hc6); have hsz6 := hc6.size; rw [Nat.zero_add, List.nil_append] at hown6; have HO6 := Lib.hid hown6; clear hgrow hc6 hown6)
    | (at_builtin; refine wpList_append_own _ rfl (.tmp 46) (.tmp 47) _ rfl w5.heap.size 3 i0 (.int .i64 0) 1 8 Try.underlying22 hi hz0 hz1 hz2 rfl (by decide) _ _ _ rfl (HO6.out.alloc _) ⟨w6.heap.size, 0, none⟩ 1 1 [.int .i64 6] rfl rfl (cells_new _ _ _) (by simp [Value.oneCell']) (by simp only [maxLen]; omega) (by omega) (by simp; omega) ?_; intro v7 w7 hown7 hgrow _; have HC7 := Lib.hid (chg_grown (HO6.out.alloc _) hgrow (HC6.out.alloc _) HC5.out.size); obtain ⟨A7, c7, hv7, hle7, hrd7⟩ := own_rd hown7; subst hv7; rw [← icells_snoc] at hrd7; clear hown7 hgrow)
  have hcv := iSaveSum_any _ A7 c7 n (xs ++ [6]) w7 hrd7
  rw [List.length_append] at hcv
  refine hcv.mono ?_
  rintro e w' ⟨s7, rfl, hs7, rfl⟩
  have hne : (s5 != s7) = true := by rw [bne_iff_ne, hs5.out, hs7.out]; exact HNE.out
  clear hcv hrd7 hs5 hs7
  go_wp2
  go_ret
  exact ⟨rfl, HC7.out⟩
end Go.Proofs.Ytbgepefdfioljaa
