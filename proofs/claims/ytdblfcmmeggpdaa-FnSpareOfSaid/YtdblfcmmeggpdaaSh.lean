/- The laws FnSparesValid and FnSpareOf: draws and walks. -/
import Derived.Test.YtdblfcmmeggpdaaSg
namespace Go.Proofs.Ytdblfcmmeggpdaa
open Go.RowKit
def SpDraw (w : World) (e' : Ending) (w' : World) : Prop := ∃ v, e' = .returned v ∧ SpV w.heap.size w' v ∧ Chg NoB w w'
set_option maxRecDepth 100000 in
set_option maxHeartbeats 2000000 in
theorem DrawSparesValid_any (A : Option Addr) (c : Nat) (bs : List Nat) (w : World) (h : Rd (fun i => i < w.heap.size) w A (bs.map fun (b : Nat) => Value.int .u8 (b : Int))) (hx : ∀ b ∈ bs, b < 256) (hc : bs.length ≤ c) :
    Calls Try.prog 35 #[.slice A bs.length c] w (SpDraw w) := by
  have h0 := (h.new ((Chg.refl NoB w).alloc (.cells #[.int .i64 0, .int .i64 0, .slice none 0 0] 42))).mono (G := fun i => i < (w.alloc (.cells #[.int .i64 0, .int .i64 0, .slice none 0 0] 42)).heap.size) (fun i hi _ => hi)
  have HB0 := Lib.hid (Blk.new w 42 #[.int .i64 0, .int .i64 0, .slice none 0 0])
  have HC0 := Lib.hid ((Chg.refl NoB w).alloc (.cells #[.int .i64 0, .int .i64 0, .slice none 0 0] 42))
  go_enter Try.func35, Try.ntmps35
  go_wp2_with fail
  refine (l20Open_any A c bs _ h0 hx hc).mono ?_
  rintro e w1 ⟨g, rfl, hg, hc1, hr1⟩
  have Hg := Lib.hid (show g = w.heap.size + 1 by rw [hg, World.size_alloc])
  clear hg
  go_wp2_with fail
  refine (l20Spares_any g _ 2 _ hr1 (by omega) (by omega) (by omega)).mono ?_
  rintro e w2 ⟨v, rfl, ⟨b, e, A', c', xs, rfl, hrd, hsp⟩, hc2, hr2⟩
  have hb2 := (HB0.out.chg hc1 (fun x => x)).chg hc2 (by have := Hg.out; omega)
  have HC2 := Lib.hid ((HC0.out.trans hc1).own hc2 (by have := Hg.out; omega))
  have HRD := Lib.hid hrd
  have HSP := Lib.hid hsp
  have hsz1 := hc1.size
  rw [World.size_alloc] at hsz1
  have y0 : w2.cell? ⟨w.heap.size, 0, none⟩ = some (.int .i64 0) := (hb2.cell _).trans rfl
  have y1 : w2.cell? ⟨w.heap.size, 1, none⟩ = some (.int .i64 0) := (hb2.cell _).trans rfl
  have y2 : w2.cell? ⟨w.heap.size, 2, none⟩ = some (.slice none 0 0) := (hb2.cell _).trans rfl
  have f0 := hb2.frozen 0
  have f1 := hb2.frozen 1
  have f2 := hb2.frozen 2
  clear hc1 hc2 hrd hsp hb2
  go_wp2_with fail
  (try simp only [Exit.inBlock, Exit.then])
  refine bodyPost_ret (v := .agg #[.int .i64 b, .int .i64 e, .slice A' xs.length c']) (by simp [results, Try.results35, go_sem, *]) rfl ?_
  have hcs : Chg (· = w.heap.size) w2 (((w2.setCell ⟨w.heap.size, 0, none⟩ (.int .i64 b)).setCell ⟨w.heap.size, 1, none⟩ (.int .i64 e)).setCell ⟨w.heap.size, 2, none⟩ (.slice A' xs.length c')) := (((Chg.refl (· = w.heap.size) w2).setCell (p := ⟨w.heap.size, 0, none⟩) (.inl rfl) _).setCell (p := ⟨w.heap.size, 1, none⟩) (.inl rfl) _).setCell (p := ⟨w.heap.size, 2, none⟩) (.inl rfl) _
  exact ⟨_, rfl, ⟨b, e, A', c', xs, rfl, (HRD.out.chg hcs (fun i hi he => by omega)).mono (fun i _ hi => by omega), HSP.out⟩, HC2.out.own hcs (Nat.le_refl _)⟩

theorem spOk_front {b e : Int} {xs : List Int} (h : spOk b e xs) (k : Nat) : spOk b e (xs.take k) := by
  obtain ⟨a1, a2, a3, a4, a5, a6⟩ := h
  refine ⟨a1, a2, a3, a4, by simp; omega, fun j hj => ?_⟩
  have hj' : j < xs.length := by simp at hj; omega
  have hjk : j < k := by simp at hj; omega
  rw [List.getElem_take, List.take_take, Nat.min_eq_left (Nat.le_of_lt hjk)]
  exact a6 j hj'
theorem spOk_twice {b e : Int} {xs : List Int} (h : 0 < xs.length) : ¬ spOk b e (xs[0] :: xs) := fun hh => by
  have := (hh.2.2.2.2.2 1 (by simp; omega)).2.2
  apply this
  simp
theorem rd_some {F : Nat → Prop} {w : World} {ad : Addr} {xs : List Value} (h : Rd F w (some ad) xs) : ∀ j u, xs[j]? = some u → w.cell? (ad.add j) = some u := fun j u hj => by
  obtain ⟨ad', e, _, hcell⟩ := h j u hj
  cases e
  exact hcell
def svPost (S B : Nat) (b e : Int) (V : Value) (ad : Addr) (c0 k : Nat) (xs : List Int) (i : Nat) : Value → World → Prop :=
  match i with
  | 0 | 14 => fun v _ => v = .pointer (some ⟨S, 0, none⟩)
  | 1 | 15 => fun v _ => v = .int .i64 b
  | 2 | 16 => fun v _ => v = .pointer (some ⟨S, 1, none⟩)
  | 3 | 17 => fun v _ => v = .int .i64 e
  | 4 | 6 | 18 | 23 => fun v _ => v = .pointer (some ⟨S, 2, none⟩)
  | 5 | 7 | 19 | 24 => fun v _ => v = V
  | 8 => fun v _ => v = .int .i64 ((k : Int) + 1)
  | 9 => fun v _ => v = .int .i64 k
  | 10 => fun v _ => v = .slice (some ad) k c0
  | 11 => fun v _ => v = .agg #[.int .i64 b, .int .i64 e, .slice (some ad) k c0]
  | 12 | 13 => fun v _ => v = .bool true
  | 20 => fun v _ => v = .pointer (some ad)
  | 21 => fun v _ => v = .int .i64 (xs.headD 0)
  | 22 => fun v w => ∃ g, v = .slice (some ⟨g, 0, none⟩) 1 1 ∧ B ≤ g ∧ Blk w g 3 #[.int .i64 (xs.headD 0)]
  | 25 => fun v w => ∃ A' c', v = .slice A' (k + 2) c' ∧ k + 2 ≤ c' ∧ c' ≤ maxLen ∧ Rd (fun i => B ≤ i) w A' (icells (xs.headD 0 :: xs))
  | 26 => fun v w => ∃ A' c', v = .agg #[.int .i64 b, .int .i64 e, .slice A' (k + 2) c'] ∧ k + 2 ≤ c' ∧ c' ≤ maxLen ∧ Rd (fun i => B ≤ i) w A' (icells (xs.headD 0 :: xs))
  | 27 => fun v _ => v = .bool false
  | _ => fun v _ => v = .bool true
theorem svPost_stab {S B : Nat} {b e : Int} {V : Value} {ad : Addr} {c0 k : Nat} {xs : List Int} {i : Nat} {v : Value} {w1 w2 : World} (h : svPost S B b e V ad c0 k xs i v w1) (hc : Chg NoB w1 w2) : svPost S B b e V ad c0 k xs i v w2 := by
  unfold svPost at *
  split at h
  all_goals first
    | exact h
    | (obtain ⟨g, h1, h2, h3⟩ := h; exact ⟨g, h1, h2, h3.chg hc (fun x => x)⟩)
    | (obtain ⟨A', c', h1, h2, h3, h4⟩ := h; exact ⟨A', c', h1, h2, h3, h4.new hc⟩)
set_option maxRecDepth 100000 in
set_option maxHeartbeats 4000000 in
theorem FnSparesValid_any (A : Option Addr) (c : Nat) (bs : List Nat) (w : World) (h : Rd (fun i => i < w.heap.size) w A (bs.map fun (b : Nat) => Value.int .u8 (b : Int))) (hx : ∀ b ∈ bs, b < 256) (hc : bs.length ≤ c) (_hm : c ≤ maxLen) :
    Calls Try.prog 12 #[.slice A bs.length c] w fun e w' => e = .returned (.bool true) ∧ Chg NoB w w' := by
  obtain ⟨i0, hi, hz0, hz1, hz2⟩ := info_parts info_int
  by_cases hl : 1048576 < bs.length
  · go_enter Try.func12, Try.ntmps12
    go_wp2
    go_ret
    exact ⟨rfl, Chg.refl _ _⟩
  have hl' : bs.length ≤ 1048576 := by omega
  go_enter Try.func12, Try.ntmps12
  go_wp2_with fail
  refine (DrawSparesValid_any A c bs w h hx hc).mono ?_
  rintro e' w1 ⟨v, rfl, ⟨b, e, A', c0, xs, rfl, hrd, hle, hcm, hx20, hb0, hb13⟩, hc1⟩
  unfold maxLen at hcm
  have HC1 := Lib.hid (hc1.alloc (.cells #[.int .i64 b, .int .i64 e, .slice A' xs.length c0] 42))
  have hrd1 := hrd.lt.new ((Chg.refl NoB w1).alloc (.cells #[.int .i64 b, .int .i64 e, .slice A' xs.length c0] 42))
  have HB1 := Lib.hid (Blk.new w1 42 #[.int .i64 b, .int .i64 e, .slice A' xs.length c0])
  have HRD1 := Lib.hid hrd1
  have hsz1 : w.heap.size ≤ w1.heap.size := hc1.size
  clear hc1 hrd
  go_wp2_with fail
  refine (iSparesValid_any _ A' c0 b e xs _ hrd1 hle (by omega)).mono ?_
  rintro e' w2 ⟨r, rfl, hr, hc2⟩
  have HC2 := Lib.hid (HC1.out.trans hc2)
  have HRD2 := Lib.hid (HRD1.out.new hc2)
  have HB2 := Lib.hid (HB1.out.chg hc2 (fun x => x))
  have x0 : w2.cell? ⟨w1.heap.size, 0, none⟩ = some (.int .i64 b) := (HB2.out.cell _).trans rfl
  have x1 : w2.cell? ⟨w1.heap.size, 1, none⟩ = some (.int .i64 e) := (HB2.out.cell _).trans rfl
  have x2 : w2.cell? ⟨w1.heap.size, 2, none⟩ = some (.slice A' xs.length c0) := (HB2.out.cell _).trans rfl
  clear hrd1 hc2
  go_wp2_with fail
  refine (sSparesValid_any _ A' c0 b e xs _ HRD2.out hle (by omega)).mono ?_
  rintro e' w3 ⟨r', rfl, hr', hc3⟩
  obtain rfl : r = r' := by rw [Bool.eq_iff_iff, hr, hr']
  have hrr : (r != r) = false := by simp
  have HC3 := Lib.hid (HC2.out.trans hc3)
  have HRD3 := Lib.hid (HRD2.out.new hc3)
  have HB3 := Lib.hid (HB2.out.chg hc3 (fun x => x))
  clear x0 x1 x2
  have x0 : w3.cell? ⟨w1.heap.size, 0, none⟩ = some (.int .i64 b) := (HB3.out.cell _).trans rfl
  have x1 : w3.cell? ⟨w1.heap.size, 1, none⟩ = some (.int .i64 e) := (HB3.out.cell _).trans rfl
  have x2 : w3.cell? ⟨w1.heap.size, 2, none⟩ = some (.slice A' xs.length c0) := (HB3.out.cell _).trans rfl
  have HR := Lib.hid hr
  clear hr hr' hc3
  cases r
  · go_wp2_with fail
    refine (alive_any _).mono ?_
    rintro e' w' ⟨rfl, rfl⟩
    go_wp2
    go_ret
    exact ⟨rfl, HC3.out⟩
  have HOK := Lib.hid (HR.out.1 rfl)
  clear HR
  by_cases hx0 : xs = []
  · subst hx0
    go_wp2_with fail
    refine (alive_any _).mono ?_
    rintro e' w' ⟨rfl, rfl⟩
    go_wp2
    go_ret
    exact ⟨rfl, HC3.out⟩
  obtain ⟨k, hk⟩ : ∃ k, xs.length = k + 1 := ⟨xs.length - 1, by have := List.length_pos_iff.2 hx0; omega⟩
  have hne : (((k : Int) + 1) == 0) = false := beq_eq_false_iff_ne.2 (by omega)
  have hhd : xs.headD 0 = xs[0]'(by omega) := by cases xs with | nil => exact absurd rfl hx0 | cons y ys => rfl
  obtain ⟨ad, rfl, _, hadlt, hcell0⟩ := ints_at HRD3.out (k := 0) (by omega)
  rw [← hhd] at hcell0
  have HTW := Lib.hid (show ¬ spOk b e (xs.headD 0 :: xs) by rw [hhd]; exact spOk_twice (by omega))
  have hadd0 : ad.add 0 = ad := by unfold Addr.add; rfl
  rw [hadd0] at hcell0
  rw [hk] at x2
  have HK := Lib.hid hk
  clear hx0 hhd
  rw [hk]
  clear hk
  have hk20 : k ≤ 19 := by have := HK.out; omega
  have hkc : k + 1 ≤ c0 := by have := HK.out; omega
  go_wp2_with fail
  refine wp_region_rgg [(13, true)] (WInv := fun c m w4 => Chg NoB w3 w4) (R := Chg NoB) (Post := svPost w1.heap.size w3.heap.size b e (.slice (some ad) (k + 1) c0) ad c0 k xs) (by kernel_rfl) (by kernel_rfl) (fun p hp v w h => by simp at hp; subst hp; exact h) (fun _ _ _ _ h _ _ => h) (fun i v w1 w2 => svPost_stab) ((Chg.refl _ _).drew) ?_ ?_
  · refine ⟨?_, ?_, ?_, ?_, ?_, ?_, ?_, ?_, ?_, ?_, ?_, ?_, ?_, ?_, ?_, ?_, ?_, ?_, ?_, ?_, ?_, ?_, ?_, ?_, ?_, ?_, ?_, ?_, ?_, ?_, ?_, trivial⟩
    · rintro c m a w4 hc hch hm hn
      have e1 : a.tmps[3]?.getD undef = .pointer (some ⟨w1.heap.size, 0, none⟩) := hn.1
      exact rg_val (v := .pointer (some ⟨w1.heap.size, 0, none⟩)) (by simp [execOp, go_sem, e1]) rfl hch (Chg.refl _ _) rfl
    · rintro c m a w4 hc hch hm hn
      obtain ⟨⟨_, e1, _, rfl⟩, -⟩ := hn
      have hz := hch.cell x0 (fun x => x)
      exact rg_val (v := .int .i64 b) (by simp [execOp, go_sem, e1, hz]) rfl hch (Chg.refl _ _) rfl
    · rintro c m a w4 hc hch hm hn
      have e1 : a.tmps[3]?.getD undef = .pointer (some ⟨w1.heap.size, 0, none⟩) := hn.1
      exact rg_val (v := .pointer (some ⟨w1.heap.size, 1, none⟩)) (by simp [execOp, go_sem, e1]) rfl hch (Chg.refl _ _) rfl
    · rintro c m a w4 hc hch hm hn
      obtain ⟨⟨_, e1, _, rfl⟩, -⟩ := hn
      have hz := hch.cell x1 (fun x => x)
      exact rg_val (v := .int .i64 e) (by simp [execOp, go_sem, e1, hz]) rfl hch (Chg.refl _ _) rfl
    · rintro c m a w4 hc hch hm hn
      have e1 : a.tmps[3]?.getD undef = .pointer (some ⟨w1.heap.size, 0, none⟩) := hn.1
      exact rg_val (v := .pointer (some ⟨w1.heap.size, 2, none⟩)) (by simp [execOp, go_sem, e1]) rfl hch (Chg.refl _ _) rfl
    · rintro c m a w4 hc hch hm hn
      obtain ⟨⟨_, e1, _, rfl⟩, -⟩ := hn
      have hz := hch.cell x2 (fun x => x)
      exact rg_val (v := .slice (some ad) (k + 1) c0) (by simp [execOp, go_sem, e1, hz]) rfl hch (Chg.refl _ _) rfl
    · rintro c m a w4 hc hch hm hn
      have e1 : a.tmps[3]?.getD undef = .pointer (some ⟨w1.heap.size, 0, none⟩) := hn.1
      exact rg_val (v := .pointer (some ⟨w1.heap.size, 2, none⟩)) (by simp [execOp, go_sem, e1]) rfl hch (Chg.refl _ _) rfl
    · rintro c m a w4 hc hch hm hn
      obtain ⟨⟨_, e1, _, rfl⟩, -⟩ := hn
      have hz := hch.cell x2 (fun x => x)
      exact rg_val (v := .slice (some ad) (k + 1) c0) (by simp [execOp, go_sem, e1, hz]) rfl hch (Chg.refl _ _) rfl
    · rintro c m a w4 hc hch hm hn
      obtain ⟨⟨_, e1, _, rfl⟩, -⟩ := hn
      exact rg_val (v := .int .i64 ((k : Int) + 1)) (by simp [go_sem, e1]) rfl hch (Chg.refl _ _) rfl
    · rintro c m a w4 hc hch hm hn
      obtain ⟨⟨_, e1, _, rfl⟩, -⟩ := hn
      exact rg_val (v := .int .i64 k) (by simp [execOp, go_sem, e1]; rw [IntKind.wrap_i64]; omega) rfl hch (Chg.refl _ _) rfl
    · rintro c m a w4 hc hch hm hn
      obtain ⟨⟨_, e1, _, rfl⟩, ⟨_, e2, _, rfl⟩, -⟩ := hn
      have q0 : (0 : Int) ≤ (k : Int) := Int.natCast_nonneg _
      have q1 : (k : Int) ≤ (c0 : Int) := by omega
      exact rg_val (v := .slice (some ad) k c0) (by simp [execOp, go_sem, e1, e2, q0, q1]) rfl hch (Chg.refl _ _) rfl
    · rintro c m a w4 hc hch hm hn
      obtain ⟨⟨_, e1, _, rfl⟩, ⟨_, e2, _, rfl⟩, ⟨_, e3, _, rfl⟩, -⟩ := hn
      exact rg_val (v := .agg #[.int .i64 b, .int .i64 e, .slice (some ad) k c0]) (by simp [execOp, go_sem, e1, e2, e3]) rfl hch (Chg.refl _ _) rfl
    · rintro c m a w4 hc hch hm hn
      obtain ⟨⟨_, e1, _, rfl⟩, -⟩ := hn
      refine rg_call (f := 33) (args := #[.agg #[.int .i64 b, .int .i64 e, .slice (some ad) k c0]]) (by simp [go_sem, e1]) rfl ?_
      have hkt : (xs.take k).length = k := by rw [List.length_take]; have := HK.out; omega
      have hcv := iSparesValid_any _ (some ad) c0 b e (xs.take k) w4 (rd_take (HRD3.out.new hch) k) (by omega) (by omega)
      rw [hkt] at hcv
      refine hcv.mono ?_
      rintro e' w5 ⟨r, rfl, hr, hc5⟩
      have hrt : r = true := hr.2 (spOk_front HOK.out k)
      exact ⟨_, rfl, hch.trans hc5, hc5, by rw [hrt]; rfl⟩
    · rintro c m a w4 hc hch hm hn
      obtain ⟨⟨_, e1, _, rfl⟩, -⟩ := hn
      exact rg_val (v := .bool true) (by simp [execOp, go_sem, e1]) rfl hch (Chg.refl _ _) rfl
    · rintro c m a w4 hc hch hm hn
      have e1 : a.tmps[3]?.getD undef = .pointer (some ⟨w1.heap.size, 0, none⟩) := hn.1
      exact rg_val (v := .pointer (some ⟨w1.heap.size, 0, none⟩)) (by simp [execOp, go_sem, e1]) rfl hch (Chg.refl _ _) rfl
    · rintro c m a w4 hc hch hm hn
      obtain ⟨⟨_, e1, _, rfl⟩, -⟩ := hn
      have hz := hch.cell x0 (fun x => x)
      exact rg_val (v := .int .i64 b) (by simp [execOp, go_sem, e1, hz]) rfl hch (Chg.refl _ _) rfl
    · rintro c m a w4 hc hch hm hn
      have e1 : a.tmps[3]?.getD undef = .pointer (some ⟨w1.heap.size, 0, none⟩) := hn.1
      exact rg_val (v := .pointer (some ⟨w1.heap.size, 1, none⟩)) (by simp [execOp, go_sem, e1]) rfl hch (Chg.refl _ _) rfl
    · rintro c m a w4 hc hch hm hn
      obtain ⟨⟨_, e1, _, rfl⟩, -⟩ := hn
      have hz := hch.cell x1 (fun x => x)
      exact rg_val (v := .int .i64 e) (by simp [execOp, go_sem, e1, hz]) rfl hch (Chg.refl _ _) rfl
    · rintro c m a w4 hc hch hm hn
      have e1 : a.tmps[3]?.getD undef = .pointer (some ⟨w1.heap.size, 0, none⟩) := hn.1
      exact rg_val (v := .pointer (some ⟨w1.heap.size, 2, none⟩)) (by simp [execOp, go_sem, e1]) rfl hch (Chg.refl _ _) rfl
    · rintro c m a w4 hc hch hm hn
      obtain ⟨⟨_, e1, _, rfl⟩, -⟩ := hn
      have hz := hch.cell x2 (fun x => x)
      exact rg_val (v := .slice (some ad) (k + 1) c0) (by simp [execOp, go_sem, e1, hz]) rfl hch (Chg.refl _ _) rfl
    · rintro c m a w4 hc hch hm hn
      obtain ⟨⟨_, e1, _, rfl⟩, -⟩ := hn
      exact rg_val (v := .pointer (some ad)) (by simp [execOp, go_sem, e1, hadd0]) rfl hch (Chg.refl _ _) rfl
    · rintro c m a w4 hc hch hm hn
      obtain ⟨⟨_, e1, _, rfl⟩, -⟩ := hn
      have hz := hch.cell hcell0 (fun x => x)
      exact rg_val (v := .int .i64 (xs.headD 0)) (by simp [execOp, go_sem, e1, hz]) rfl hch (Chg.refl _ _) rfl
    · rintro c m a w4 hc hch hm hn
      obtain ⟨⟨_, e1, _, rfl⟩, -⟩ := hn
      have hca : Chg NoB w4 (w4.alloc (.cells #[.int .i64 (xs.headD 0)] 3)) := (Chg.refl _ _).alloc _
      exact rg_val (v := .slice (some ⟨w4.heap.size, 0, none⟩) 1 1) (w' := w4.alloc (.cells #[.int .i64 (xs.headD 0)] 3)) (by simp [execOp, go_sem, e1]) rfl (hch.trans hca) hca ⟨_, rfl, hch.size, Blk.new _ _ _⟩
    · rintro c m a w4 hc hch hm hn
      have e1 : a.tmps[3]?.getD undef = .pointer (some ⟨w1.heap.size, 0, none⟩) := hn.1
      exact rg_val (v := .pointer (some ⟨w1.heap.size, 2, none⟩)) (by simp [execOp, go_sem, e1]) rfl hch (Chg.refl _ _) rfl
    · rintro c m a w4 hc hch hm hn
      obtain ⟨⟨_, e1, _, rfl⟩, -⟩ := hn
      have hz := hch.cell x2 (fun x => x)
      exact rg_val (v := .slice (some ad) (k + 1) c0) (by simp [execOp, go_sem, e1, hz]) rfl hch (Chg.refl _ _) rfl
    · rintro c m a w4 hc hch hm hn
      obtain ⟨⟨_, e1, _, g0, rfl, hg0, hbl⟩, ⟨_, e2, _, rfl⟩, -⟩ := hn
      have hsrc := rd_some (HRD3.out.new hch)
      obtain ⟨v', w5, hr, ho, hgr⟩ := run_append_arg_grows (P := Try.prog) w4 31 31 3 i0 (.int .i64 0) 1 8 Try.underlying31 hi hz0 hz1 hz2 rfl (by decide) ⟨g0, 0, none⟩ 1 1 [.int .i64 (xs.headD 0)] rfl (rd_some (Blk.rd hbl)) ad (k + 1) c0 (icells xs) (by rw [icells_length, Nat.mul_one, HK.out]) hsrc (by omega) (by simp only [maxLen]; omega) (by omega)
      have hc5 : Chg NoB w4 w5 := (Chg.refl NoB w4).grown hgr (fun k hk => by cases hk)
      obtain ⟨A5, c5, rfl, h1, h2, h3⟩ := own_cap ho
      exact rg_val (v := .slice A5 (1 + (k + 1)) c5) (w' := w5) (exec_append (.tmp 47) (.tmp 49) 31 rfl (by simpa [Act.eval] using e1) (by simpa [Act.eval] using e2) hr) rfl (hch.trans hc5) hc5 ⟨A5, c5, by rw [show 1 + (k + 1) = k + 2 by omega], by omega, h2, h3.mono (fun i _ hi => Nat.le_trans hch.size hi)⟩
    · rintro c m a w4 hc hch hm hn
      obtain ⟨⟨_, e1, _, rfl⟩, ⟨_, e2, _, rfl⟩, ⟨_, e3, _, A5, c5, rfl, h1, h2, h3⟩, -⟩ := hn
      exact rg_val (v := .agg #[.int .i64 b, .int .i64 e, .slice A5 (k + 2) c5]) (by simp [execOp, go_sem, e1, e2, e3]) rfl hch (Chg.refl _ _) ⟨A5, c5, rfl, h1, h2, h3⟩
    · rintro c m a w4 hc hch hm hn
      obtain ⟨⟨_, e1, _, A5, c5, rfl, h1, h2, h3⟩, -⟩ := hn
      refine rg_call (f := 33) (args := #[.agg #[.int .i64 b, .int .i64 e, .slice A5 (k + 2) c5]]) (by simp [go_sem, e1]) rfl ?_
      have hkt : (xs.headD 0 :: xs).length = k + 2 := by rw [List.length_cons, HK.out]
      have hcv := iSparesValid_any _ A5 c5 b e (xs.headD 0 :: xs) w4 h3 (by omega) (by unfold maxLen at h2; omega)
      rw [hkt] at hcv
      refine hcv.mono ?_
      rintro e' w5 ⟨r, rfl, hr, hc5⟩
      have hrt : r = false := by cases r; rfl; exact absurd (hr.1 rfl) HTW.out
      exact ⟨_, rfl, hch.trans hc5, hc5, by rw [hrt]; rfl⟩
    · rintro c m a w4 hc hch hm hn
      obtain ⟨⟨_, e1, _, rfl⟩, -⟩ := hn
      exact rg_val (v := .bool true) (by simp [execOp, go_sem, e1]) rfl hch (Chg.refl _ _) rfl
    · rintro c m a w4 hc hch hm hn
      obtain ⟨⟨_, e1, _, rfl⟩, ⟨_, e2, _, rfl⟩, -⟩ := hn
      exact rg_val (v := .bool true) (by simp [execOp, go_sem, e1, e2]) rfl hch (Chg.refl _ _) rfl
    · rintro c m a w4 hc hch hm hn
      obtain ⟨⟨_, e1, _, rfl⟩, -⟩ := hn
      exact rg_val (v := .bool true) (by simp [execOp, go_sem, e1]) rfl hch (Chg.refl _ _) rfl
  · rintro m w4 hch
    simp only [AllVals]
    rintro v0 - p0 v1 - p1 v2 - p2 v3 - p3 v4 - p4 v5 - p5 v6 - p6 v7 - p7 v8 - p8 v9 - p9 v10 - p10 v11 - p11 v12 - p12 v13 - p13 v14 - p14 v15 - p15 v16 - p16 v17 - p17 v18 - p18 v19 - p19 v20 - p20 v21 - p21 v22 - p22 v23 - p23 v24 - p24 v25 - p25 v26 - p26 v27 - p27 v28 - p28 v29 - p29 v30 - p30
    obtain rfl := p30
    clear p0 p1 p2 p3 p4 p5 p6 p7 p8 p9 p10 p11 p12 p13 p14 p15 p16 p17 p18 p19 p20 p21 p22 p23 p24 p25 p26 p27 p28 p29
    simp only [Act.put, List.setIfInBounds_toArray, List.set_cons_succ, List.set_cons_zero]
    go_wp2_with fail
    go_ret
    exact ⟨rfl, HC3.out.trans hch⟩
end Go.Proofs.Ytdblfcmmeggpdaa
