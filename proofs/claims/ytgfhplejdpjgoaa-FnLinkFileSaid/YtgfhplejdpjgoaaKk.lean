/- Laws on links: FnCloseAll, FnOrphans, FnLinkFile: the walks. -/
import Derived.Test.YtgfhplejdpjgoaaKj
import Derived.ScratchShow
namespace Go.Proofs.Ytgfhplejdpjgoaa
open Go.RowKit

theorem close_get {xs : List Lk} {k : Nat} (h : k < (xs.map Lk.close).length) (h' : k < xs.length) : (xs.map Lk.close)[k].opens = 0 ∧ (xs.map Lk.close)[k].names = xs[k].names := by
  simp [Lk.close]
set_option maxRecDepth 100000 in
set_option maxHeartbeats 2000000 in
theorem FnCloseAll_any (A : Option Addr) (c : Nat) (bs : List Nat) (w : World) (h : Rd (fun i => i < w.heap.size) w A (bs.map fun (b : Nat) => Value.int .u8 (b : Int))) (hx : ∀ b ∈ bs, b < 256) (hc : bs.length ≤ c) (_hm : c ≤ maxLen) :
    Calls Try.prog 10 #[.slice A bs.length c] w fun e w' => e = .returned (.bool true) ∧ Chg NoB w w' := by
  by_cases hl : 1048576 < bs.length
  · go_enter Try.func10, Try.ntmps10
    go_wp2
    go_ret
    exact ⟨rfl, Chg.refl _ _⟩
  have hl' : bs.length ≤ 1048576 := by omega
  go_enter Try.func10, Try.ntmps10
  go_wp2_with fail
  refine (DrawCloseAll_any A c bs w h hx hc).mono ?_
  rintro e w1 ⟨A', c', xs, rfl, hrd, hle, h8, hc1⟩
  go_wp2_with fail
  refine (iCloseAll_any _ A' c' xs _ hrd).mono ?_
  rintro e w2 ⟨A2, c2, ys, rfl, ho2, hy, hc2⟩
  have hrd2 := hrd.lt.chg hc2 (fun _ _ x => x)
  go_wp2_with fail
  refine (sCloseAll_any _ A' c' xs _ hrd2 (by omega)).mono ?_
  rintro e w3 ⟨A3, c3, zs, rfl, ho3, hz, hc3⟩
  obtain rfl : zs = ys := by
    by_cases hok : linksOk xs
    · rw [hy.1 hok, hz.1 hok]
    · rw [hy.2 hok, hz.2 hok]
  have hyl : zs.length ≤ 8 := by
    by_cases hok : linksOk xs
    · rw [hy.1 hok, List.length_map]; exact h8
    · rw [hy.2 hok]; simp
  have HY := Lib.hid hy
  clear hy hz
  go_wp2_with fail
  refine (sameLinks_t _ _ A2 A3 c2 c3 zs _ (ho2.new hc3).rd ho3.rd (by omega)).mono ?_
  rintro e w4 ⟨rfl, hc4⟩
  have hrd4 := (hrd2.chg hc3 (fun _ _ x => x)).chg hc4 (fun _ _ x => x)
  go_wp2_with fail
  refine (iLinksValid_any _ A' c' xs _ hrd4).mono ?_
  rintro e w5 ⟨b, rfl, hb, hc5⟩
  have hrd5 := hrd4.chg hc5 (fun _ _ x => x)
  have hy5 := (((ho2.new hc3).new hc4).new hc5).rd
  have HC5 := Lib.hid ((((hc1.trans hc2).trans hc3).trans hc4).trans hc5)
  have HB := Lib.hid hb
  clear hb hc1 hc2 hc3 hc4 hc5
  cases b
  · have hno : ¬ linksOk xs := fun hh => by have := HB.out.2 hh; cases this
    have hz0 : zs = [] := HY.out.2 hno
    subst hz0
    go_wp2_with fail
    refine (alive_any _).mono ?_
    rintro e w' ⟨rfl, rfl⟩
    go_wp2
    go_ret
    exact ⟨rfl, HC5.out⟩
  · have hz1 : zs = xs.map Lk.close := HY.out.1 (HB.out.1 rfl)
    have hzl : zs.length = xs.length := by rw [hz1, List.length_map]
    have HZ := Lib.hid hz1
    have HZL := Lib.hid hzl
    have hle1 : zs.length ≤ xs.length := by omega
    have hle2 : xs.length ≤ zs.length := by omega
    clear hz1 hzl
    go_wp2_with fail
    go_loopw [5] (fun i wr => ∃ k : Nat, k ≤ zs.length ∧ i = .int .i64 k ∧ Chg NoB w5 wr) (fun i _ => zs.length - (intOf i).toNat)
    case atStart => exact ⟨0, Nat.zero_le _, rfl, Chg.refl _ _⟩
    case round =>
      obtain ⟨k, hk, rfl, hch⟩ := hrel
      by_cases hlt : k < zs.length
      · have hltx : k < xs.length := by omega
        obtain ⟨bb, oo, rfl, hf, hbl, hc0, hc1⟩ := lk_at (hrd5.chg hch fun _ _ x => x) hltx
        obtain ⟨bb', oo', rfl, hf', hbl', hc0', hc1'⟩ := lk_at (hy5.chg hch fun _ _ x => x) hlt
        have hgg : zs[k].opens = 0 ∧ zs[k].names = xs[k].names := by
          have e := HZ.out
          subst e
          exact close_get hlt hltx
        rw [hgg.1] at hc1'
        rw [hgg.2] at hc0'
        clear hgg
        have hi0 : (0 : Int) ≤ (k : Int) := Int.natCast_nonneg _
        have hi1 : (k : Int) < (xs.length : Int) := by omega
        have hi2 : (k : Int) < (zs.length : Int) := by omega
        have HC := Lib.hid hch
        clear hch
        go_wp2
        go_quiet (fail)
        go_wp2
        go_roundw
        case rel => exact ⟨k + 1, by omega, by go_num, HC.out.drewN _⟩
        case measure => simp [intOf]; omega
      · have HC := Lib.hid hch
        clear hch
        go_wp2
        go_ret
        exact ⟨ret_bool (by rw [beq_iff_eq]; have := HZL.out; omega), HC5.out.trans HC.out⟩

theorem orphN_mem {xs : List Lk} (n k : Nat) (hn : n ≤ xs.length) : ((k : Int) ∈ orphN xs n) ↔ (k < n ∧ ∃ h : k < xs.length, xs[k].names = 0 ∧ 0 < xs[k].opens) := by
  induction n with
  | zero => simp [orphN]
  | succ n ih =>
    have hlt : n < xs.length := by omega
    by_cases hc : xs[n].names = 0 ∧ 0 < xs[n].opens
    · rw [orphN_hit hlt hc.1 hc.2, List.mem_append, ih (by omega)]
      constructor
      · rintro (⟨h1, h2⟩ | h1)
        · exact ⟨by omega, h2⟩
        · simp at h1
          have : k = n := by omega
          subst this
          exact ⟨by omega, hlt, hc⟩
      · rintro ⟨h1, h2⟩
        rcases Nat.lt_or_ge k n with h3 | h3
        · exact .inl ⟨h3, h2⟩
        · have : k = n := by omega
          subst this
          exact .inr (by simp)
    · rw [orphN_miss hlt hc, ih (by omega)]
      constructor
      · rintro ⟨h1, h2⟩; exact ⟨by omega, h2⟩
      · rintro ⟨h1, h2, h3⟩
        rcases Nat.lt_or_ge k n with h4 | h4
        · exact ⟨h4, h2, h3⟩
        · have : k = n := by omega
          subst this
          exact absurd h3 hc
theorem orph_closed {xs ys : List Lk} {zs : List Int} (h : Closed xs ys) (ho : Orph ys zs) : zs = [] := by
  by_cases hok : linksOk ys
  · rw [ho.1 hok]
    have hx : linksOk xs := by
      rcases Classical.em (linksOk xs) with h1 | h1
      · exact h1
      · have := h.2 h1; rw [this] at hok; have := hok.1; simp at this
    have e := h.1 hx
    have : ∀ n, n ≤ ys.length → orphN ys n = [] := by
      intro n hn
      induction n with
      | zero => rfl
      | succ n ih =>
        have hlt : n < ys.length := by omega
        rw [orphN_miss hlt, ih (by omega)]
        rintro ⟨_, h2⟩
        subst e
        rw [(close_get hlt (by simpa using hlt)).1] at h2
        omega
    exact this _ (Nat.le_refl _)
  · exact ho.2 hok
end Go.Proofs.Ytgfhplejdpjgoaa
