/- Draws of spares. -/
import Derived.Test.YtdblfcmmeggpdaaSf
import Derived.Test.YtdblfcmmeggpdaaDa
namespace Go.Proofs.Ytdblfcmmeggpdaa
open Go.RowKit
def lsPost (g bx5 B : Nat) (b e : Int) (V : Value) (i : Nat) : Value → World → Prop :=
  match i with
  | 0 => fun v _ => v = .agg #[.int .i64 b, .int .i64 e, V]
  | 1 => isPtr g
  | 2 => fun v _ => v = .pointer (some ⟨bx5, 0, none⟩)
  | 3 => fun v _ => v = .int .i64 b
  | 4 => fun v _ => ∃ k : Nat, v = .int .i64 k ∧ (k : Int) < b
  | 5 | 6 => fun v w => ∃ u ys f, v = .tuple #[.agg #[.int .i64 b, .int .i64 e, u], .bool f] ∧ w.ownsRow B 3 1 u ys.length (icells ys) ∧ spOk b e ys
  | 7 => fun v w => ∃ u ys, v = .agg #[.int .i64 b, .int .i64 e, u] ∧ w.ownsRow B 3 1 u ys.length (icells ys) ∧ spOk b e ys
  | 8 | 11 => fun v _ => ∃ f, v = .bool f
  | _ => fun _ _ => True
theorem lsPost_stab {g bx5 B : Nat} {b e : Int} {V : Value} {i : Nat} {v : Value} {w1 w2 : World} (hg : g < B) (h : lsPost g bx5 B b e V i v w1) (hc : RBox (· = g) B 42 w1 w2) : lsPost g bx5 B b e V i v w2 := by
  have hG : ∀ k, B ≤ k → ¬ k = g := fun k h1 h2 => by omega
  unfold lsPost at *
  split at h
  all_goals first
    | exact h
    | (obtain ⟨u, ys, f, h1, h2, h3⟩ := h; exact ⟨u, ys, f, h1, hc.own h2 hG ty_int_spares, h3⟩)
    | (obtain ⟨u, ys, h1, h2, h3⟩ := h; exact ⟨u, ys, h1, hc.own h2 hG ty_int_spares, h3⟩)
/-- Spares that were drawn. -/
def SpV (B : Nat) (w : World) (v : Value) : Prop :=
  ∃ b e A c xs, v = .agg #[.int .i64 b, .int .i64 e, .slice A (xs : List Int).length c] ∧ Rd (fun i => B ≤ i) w A (icells xs) ∧ xs.length ≤ c ∧ c ≤ maxLen ∧ xs.length ≤ 20 ∧ 0 ≤ b ∧ b ≤ 13
def SpDrawn (g N : Nat) (w : World) (e' : Ending) (w' : World) : Prop := ∃ v, e' = .returned v ∧ SpV w.heap.size w' v ∧ Chg (· = g) w w' ∧ Rdr w' g N
theorem own_cap {w : World} {B n : Nat} {e : TypeId} {v : Value} {xs : List Value} (h : w.ownsRow B e 1 v n xs) : ∃ A c, v = .slice A n c ∧ n ≤ c ∧ c ≤ maxLen ∧ Rd (fun i => B ≤ i) w A xs := by
  obtain ⟨A, c, rfl, hn, hr⟩ := own_rd h
  refine ⟨A, c, rfl, hn, ?_, hr⟩
  rcases h.2 with ⟨h1, _⟩ | ⟨g, cap, cur, h1, _, _, _, h2, _⟩
  · cases h1; exact Nat.zero_le _
  · cases h1; exact h2

set_option maxRecDepth 100000 in
set_option maxHeartbeats 4000000 in
theorem l20Spares_any (g N : Nat) (n : Int) (w : World) (h : Rdr w g N) (hN : N ≤ 1000000) (hn0 : 0 ≤ n) (hn : n ≤ 1000000) :
    Calls Try.prog 47 #[.pointer (some ⟨g, 0, none⟩), .int .i64 n] w (SpDrawn g (N + 200) w) := by
  have hg0 := h.lt
  go_enter Try.func47, Try.ntmps47
  go_wp2_with fail
  refine (pick_any g _ 6 _ (h.alloc _) (by omega) (by omega) (by omega)).mono ?_
  rintro e' w1 ⟨k1, rfl, hk1, hc1, hr1⟩
  have hb1 := (Blk.new w 42 #[.int .i64 0, .int .i64 0, .slice none 0 0]).chg hc1 (by omega)
  have HC1 := Lib.hid (((Chg.refl (· = g) w).alloc (.cells #[.int .i64 0, .int .i64 0, .slice none 0 0] 42)).trans hc1)
  have HB1 := Lib.hid hb1
  clear hc1 hb1
  go_wp2_with fail
  refine (pick_any g _ 5 _ hr1 (by omega) (by omega) (by omega)).mono ?_
  rintro e' w2 ⟨k2, rfl, hk2, hc2, hr2⟩
  have HC2 := Lib.hid (HC1.out.trans hc2)
  have HB2 := Lib.hid (HB1.out.chg hc2 (by omega))
  clear hc2
  go_wp2_with fail
  obtain ⟨S, hS⟩ : ∃ S, w2.heap.size = S := ⟨_, rfl⟩
  have hgS : g < S := by have := hr2.lt; omega
  have hHS : w.heap.size < S := by have := HB2.out.lt; omega
  have hbS := Blk.new w2 42 #[.int .i64 (1 + (k1 : Int)), .int .i64 k2, .slice none 0 0]
  rw [hS] at hbS ⊢
  have HC2' := Lib.hid (HC2.out.alloc (.cells #[.int .i64 (1 + (k1 : Int)), .int .i64 k2, .slice none 0 0] 42))
  have HB2' := Lib.hid (HB2.out.chg ((Chg.refl NoB w2).alloc (.cells #[.int .i64 (1 + (k1 : Int)), .int .i64 k2, .slice none 0 0] 42)) (fun x => x))
  refine (pick_any g _ 6 _ (hr2.alloc _) (by omega) (by omega) (by omega)).mono ?_
  rintro e' w3 ⟨k3, rfl, hk3, hc3, hr3⟩
  have HC3 := Lib.hid (HC2'.out.trans hc3)
  have HB3 := Lib.hid (HB2'.out.chg hc3 (by omega))
  have HS3 := Lib.hid (hbS.chg hc3 (by omega))
  clear hc3 hbS
  have hk3' : k3 ≤ 5 := by omega
  go_wp2_with fail
  go_loopw [6] (fun i wr => ∃ (k M : Nat) (b e : Int) (A : Option Addr) (c0 : Nat) (xs : List Int), i = .int .i64 k ∧ k ≤ 5 ∧ Rdr wr g M ∧ M + 12 * k ≤ N + 100 ∧ Chg (· = g) w wr ∧ Blk wr w.heap.size 42 #[.int .i64 0, .int .i64 0, .slice none 0 0] ∧ Blk wr S 42 #[.int .i64 b, .int .i64 e, .slice A xs.length c0] ∧ Rd (fun i => S < i) wr A (icells xs) ∧ xs.length ≤ c0 ∧ c0 ≤ maxLen ∧ Hid (spOk b e xs)) (fun i _ => (intOf i).toNat)
  case atStart => exact ⟨k3, N + 1 + 1 + 1, 1 + (k1 : Int), k2, none, 0, [], rfl, hk3', hr3, by omega, HC3.out, HB3.out, HS3.out, Rd.nil _ _ _, Nat.le_refl _, Nat.zero_le _, Lib.hid ⟨by omega, by omega, by omega, by omega, by simp, fun k hk => by simp at hk⟩⟩
  case round =>
    obtain ⟨k, M, b, e, A, c0, xs, rfl, hk, hr, hM, hch0, hbH, hbS, hrx, hle, hcm, hok⟩ := hrel
    have HC := Lib.hid hch0
    have HH := Lib.hid hbH
    have HS := Lib.hid hbS
    have HRX := Lib.hid hrx
    have HOK := hok
    unfold maxLen at hcm
    have s0 : wr.cell? ⟨S, 0, none⟩ = some (.int .i64 b) := (hbS.cell _).trans rfl
    have s1 : wr.cell? ⟨S, 1, none⟩ = some (.int .i64 e) := (hbS.cell _).trans rfl
    have s2 : wr.cell? ⟨S, 2, none⟩ = some (.slice A xs.length c0) := (hbS.cell _).trans rfl
    have hSlt := hbS.lt
    have hl12 : xs.length ≤ 12 := by have := hok.out.2.2.2.2.1; have := hok.out.2.2.2.1; omega
    clear hch0 hbH hbS hrx
    by_cases hlt : 0 < k
    · go_wp2_with fail
      refine wp_region_rg (WInv := fun c m w4 => Rdr w4 g (M + c) ∧ Chg (· = g) wr w4 ∧ c ≤ 12 ∧ BoxI wr.heap.size 42 #[.int .i64 0, .int .i64 0, .slice none 0 0] 9 10 7 m w4) (R := RBox (· = g) wr.heap.size 42) (Post := lsPost g S wr.heap.size b e (.slice A xs.length c0)) (by kernel_rfl) (by kernel_rfl) ?_ (fun i v w1 w2 => lsPost_stab hr.lt) ⟨hr.drew, (Chg.refl _ _).drew, by omega, BoxI.start⟩ ?_ ?_
      · rintro c c' m w ⟨h1, h2, _, h5⟩ h3 h4
        exact ⟨h1.more (by omega), h2, h4, h5⟩
      refine ⟨?_, ?_, ?_, ?_, ?_, ?_, ?_, ?_, ?_, ?_, ?_, ?_, trivial⟩
      · rintro c m a w4 hc ⟨hrd, hch, hcc, hbx⟩ hm hn
        have e1 : a.tmps[5]?.getD undef = .pointer (some ⟨S, 0, none⟩) := hn.1
        have x0 := hch.cell s0 (by simp; omega)
        have x1 := hch.cell s1 (by simp; omega)
        have x2 := hch.cell s2 (by simp; omega)
        exact rg_val (v := .agg #[.int .i64 b, .int .i64 e, .slice A xs.length c0]) (by simp [execOp, go_sem, e1, x0, x1, x2]) rfl ⟨hrd.more (by omega), hch, hc, hbx.keep (by decide) (by decide) hm (Chg.refl NoB _) (fun _ _ x => x)⟩ (Chg.refl _ _) rfl
      · rintro c m a w4 hc ⟨hrd, hch, hcc, hbx⟩ hm hn
        have e1 : a.tmps[0]?.getD undef = .pointer (some ⟨g, 0, none⟩) := hn.1
        exact rg_val (v := .pointer (some ⟨g, 0, none⟩)) (by simp [execOp, go_sem, e1]) rfl ⟨hrd.more (by omega), hch, hc, hbx.keep (by decide) (by decide) hm (Chg.refl NoB _) (fun _ _ x => x)⟩ (Chg.refl _ _) rfl
      · rintro c m a w4 hc ⟨hrd, hch, hcc, hbx⟩ hm hn
        have e1 : a.tmps[5]?.getD undef = .pointer (some ⟨S, 0, none⟩) := hn.1
        exact rg_val (v := .pointer (some ⟨S, 0, none⟩)) (by simp [execOp, go_sem, e1]) rfl ⟨hrd.more (by omega), hch, hc, hbx.keep (by decide) (by decide) hm (Chg.refl NoB _) (fun _ _ x => x)⟩ (Chg.refl _ _) rfl
      · rintro c m a w4 hc ⟨hrd, hch, hcc, hbx⟩ hm hn
        obtain ⟨⟨_, e1, _, rfl⟩, -⟩ := hn
        have x0 := hch.cell s0 (by simp; omega)
        exact rg_val (v := .int .i64 b) (by simp [execOp, go_sem, e1, x0]) rfl ⟨hrd.more (by omega), hch, hc, hbx.keep (by decide) (by decide) hm (Chg.refl NoB _) (fun _ _ x => x)⟩ (Chg.refl _ _) rfl
      · rintro c m a w4 hc ⟨hrd, hch, hcc, hbx⟩ hm hn
        obtain ⟨⟨_, e1, _, rfl⟩, ⟨_, e2, _, rfl⟩, -⟩ := hn
        refine rg_call (f := 42) (args := #[.pointer (some ⟨g, 0, none⟩), .int .i64 b]) (by simp [go_sem, e1, e2]) rfl ?_
        refine (pick_any g _ b _ hrd (by omega) (by have := HOK.out.1; omega) (by have := HOK.out.2.1; omega)).mono ?_
        rintro e' w5 ⟨k, rfl, hk, hc5, hr5⟩
        exact ⟨_, rfl, ⟨hr5, hch.trans hc5, hc, hbx.keep (by decide) (by decide) hm hc5 (fun i hi he => by omega)⟩, RBox.of hc5 (fun _ x => x), k, rfl, hk⟩
      · rintro c m a w4 hc ⟨hrd, hch, hcc, hbx⟩ hm hn
        obtain ⟨⟨_, e1, _, rfl⟩, ⟨_, e2, _, k, rfl, hk⟩, -⟩ := hn
        refine rg_call (f := 49) (args := #[.agg #[.int .i64 b, .int .i64 e, .slice A xs.length c0], .int .i64 k]) (by simp [go_sem, e1, e2]) rfl ?_
        refine (MarkBad_any _ A c0 b e xs k _ (HRX.out.chg hch (fun i hi he => by omega)) hle (by omega) ⟨HOK.out, by omega, hk⟩).mono ?_
        rintro e' w5 ⟨u, ys, f, rfl, ho, hok, hc5⟩
        exact ⟨_, rfl, ⟨(hrd.chg hc5 (fun _ _ x => x)).more (by omega), hch.trans' hc5 (fun _ x => x.elim), hc, hbx.keep (by decide) (by decide) hm hc5 (fun _ _ x => x)⟩, RBox.of hc5 (fun _ x => x.elim), u, ys, f, rfl, own_low ho hch.size, hok⟩
      · rintro c m a w4 hc ⟨hrd, hch, hcc, hbx⟩ hm hn
        obtain ⟨⟨_, e1, _, u, ys, f, rfl, ho, hok⟩, -⟩ := hn
        exact rg_val (v := .tuple #[.agg #[.int .i64 b, .int .i64 e, u], .bool f]) (by simp [execOp, go_sem, e1]) rfl ⟨hrd.more (by omega), hch, hc, hbx.keep (by decide) (by decide) hm (Chg.refl NoB _) (fun _ _ x => x)⟩ (Chg.refl _ _) ⟨u, ys, f, rfl, ho, hok⟩
      · rintro c m a w4 hc ⟨hrd, hch, hcc, hbx⟩ hm hn
        obtain ⟨⟨_, e1, _, u, ys, f, rfl, ho, hok⟩, -⟩ := hn
        exact rg_val (v := .agg #[.int .i64 b, .int .i64 e, u]) (by simp [execOp, go_sem, e1]) rfl ⟨hrd.more (by omega), hch, hc, hbx.keep (by decide) (by decide) hm (Chg.refl NoB _) (fun _ _ x => x)⟩ (Chg.refl _ _) ⟨u, ys, rfl, ho, hok⟩
      · rintro c m a w4 hc ⟨hrd, hch, hcc, hbx⟩ hm hn
        obtain ⟨⟨_, e1, _, u, ys, f, rfl, ho, hok⟩, -⟩ := hn
        exact rg_val (v := .bool f) (by simp [execOp, go_sem, e1]) rfl ⟨hrd.more (by omega), hch, hc, hbx.keep (by decide) (by decide) hm (Chg.refl NoB _) (fun _ _ x => x)⟩ (Chg.refl _ _) ⟨f, rfl⟩
      · rintro c m a w4 hc ⟨hrd, hch, hcc, hbx⟩ hm hn
        have hca : Chg NoB w4 (w4.alloc (.cells #[.int .i64 0, .int .i64 0, .slice none 0 0] 42)) := (Chg.refl _ _).alloc _
        exact rg_val (v := .pointer (some ⟨w4.heap.size, 0, none⟩)) (w' := w4.alloc (.cells #[.int .i64 0, .int .i64 0, .slice none 0 0] 42)) (by simp [execOp, go_sem]) rfl ⟨(hrd.alloc _).more (by omega), hch.alloc _, hc, hbx.alloc (by decide) hm hch.size⟩ (RBox.of hca (fun _ x => x.elim)) trivial
      · rintro c m a w4 hc ⟨hrd, hch, hcc, hbx⟩ hm hn
        obtain ⟨⟨p, e1, hm9, _⟩, ⟨_, e2, hm8, u, ys, rfl, ho, hok⟩, -⟩ := hn
        obtain ⟨bx, rfl, hB, hb⟩ := hbx.ready hm hm9
        obtain ⟨A', c', rfl, _⟩ := own_rd ho
        have f0 := hb.frozen 0
        have f1 := hb.frozen 1
        have f2 := hb.frozen 2
        have x0 : w4.cell? ⟨bx, 0, none⟩ = some (.int .i64 0) := (hb.cell _).trans rfl
        have x1 : w4.cell? ⟨bx, 1, none⟩ = some (.int .i64 0) := (hb.cell _).trans rfl
        have x2 : w4.cell? ⟨bx, 2, none⟩ = some (.slice none 0 0) := (hb.cell _).trans rfl
        have hst : Chg (· = bx) w4 (((w4.setCell ⟨bx, 0, none⟩ (.int .i64 b)).setCell ⟨bx, 1, none⟩ (.int .i64 e)).setCell ⟨bx, 2, none⟩ (.slice A' ys.length c')) := (((Chg.refl (· = bx) w4).setCell (p := ⟨bx, 0, none⟩) (.inl rfl) _).setCell (p := ⟨bx, 1, none⟩) (.inl rfl) _).setCell (p := ⟨bx, 2, none⟩) (.inl rfl) _
        have hb' : Blk (((w4.setCell ⟨bx, 0, none⟩ (.int .i64 b)).setCell ⟨bx, 1, none⟩ (.int .i64 e)).setCell ⟨bx, 2, none⟩ (.slice A' ys.length c')) bx 42 #[.int .i64 b, .int .i64 e, .slice A' ys.length c'] := ((hb.set_ 0 _).set_ 1 _).set_ 2 _
        exact rg_skip (w' := ((w4.setCell ⟨bx, 0, none⟩ (.int .i64 b)).setCell ⟨bx, 1, none⟩ (.int .i64 e)).setCell ⟨bx, 2, none⟩ (.slice A' ys.length c')) (by simp [execOp, go_sem, e1, e2, x0, x1, x2, f0, f1, f2]) rfl ⟨(hrd.chg hst (fun i hi he => by have := hr.lt; omega)).more (by omega), hch.own hst hB, hc, BoxI.store (by decide) (by decide) hm9 hB hm8 hb'⟩ (RBox.box hst hB hb) trivial
      · rintro c m a w4 hc ⟨hrd, hch, hcc, hbx⟩ hm hn
        obtain ⟨⟨_, e1, _, f, rfl⟩, -⟩ := hn
        exact rg_val (v := .bool f) (by simp [execOp, go_sem, e1]) rfl ⟨hrd.more (by omega), hch, hc, hbx.keep (by decide) (by decide) hm (Chg.refl NoB _) (fun _ _ x => x)⟩ (Chg.refl _ _) ⟨f, rfl⟩
      rintro m w4 ⟨hrd, hch, -, hbx⟩
      simp only [AllVals]
      rintro v0 m0 p0 v1 m1 p1 v2 m2 p2 v3 m3 p3 v4 m4 p4 v5 m5 p5 v6 m6 p6 v7 m7 p7 v8 m8 p8 v9 m9 p9 v10 m10 p10 v11 m11 p11
      obtain ⟨u, ys, rfl, ho, hok4⟩ := p7
      obtain ⟨bx, rfl, hB, hb⟩ := hbx.done m9 m10 m7
      obtain ⟨A', c', rfl, hle4, hcm4, hrd4⟩ := own_cap ho
      obtain ⟨f8, rfl⟩ := p8
      obtain ⟨f11, rfl⟩ := p11
      clear p0 p1 p2 p3 p4 p5 p6 p9 p10 hbx ho
      simp only [Act.put, List.setIfInBounds_toArray, List.set_cons_succ, List.set_cons_zero]
      have b0 : w4.cell? ⟨bx, 0, none⟩ = some (.int .i64 b) := (hb.cell _).trans rfl
      have b1 : w4.cell? ⟨bx, 1, none⟩ = some (.int .i64 e) := (hb.cell _).trans rfl
      have b2 : w4.cell? ⟨bx, 2, none⟩ = some (.slice A' ys.length c') := (hb.cell _).trans rfl
      have hS4 := HS.out.chg hch (by omega)
      have hH4 := HH.out.chg hch (by have := h.lt; omega)
      have x0 : w4.cell? ⟨S, 0, none⟩ = some (.int .i64 b) := (hS4.cell _).trans rfl
      have x1 : w4.cell? ⟨S, 1, none⟩ = some (.int .i64 e) := (hS4.cell _).trans rfl
      have x2 : w4.cell? ⟨S, 2, none⟩ = some (.slice A xs.length c0) := (hS4.cell _).trans rfl
      have f0 := hS4.frozen 0
      have f1 := hS4.frozen 1
      have f2 := hS4.frozen 2
      have hcs : Chg (· = S) w4 (((w4.setCell ⟨S, 0, none⟩ (.int .i64 b)).setCell ⟨S, 1, none⟩ (.int .i64 e)).setCell ⟨S, 2, none⟩ (.slice A' ys.length c')) := (((Chg.refl (· = S) w4).setCell (p := ⟨S, 0, none⟩) (.inl rfl) _).setCell (p := ⟨S, 1, none⟩) (.inl rfl) _).setCell (p := ⟨S, 2, none⟩) (.inl rfl) _
      have HN := Lib.hid (show Rdr _ g (M + 12) ∧ Chg (· = g) w _ ∧ Blk _ w.heap.size 42 #[.int .i64 0, .int .i64 0, .slice none 0 0] ∧ Blk _ S 42 #[.int .i64 b, .int .i64 e, .slice A' ys.length c'] ∧ Rd (fun i => S < i) _ A' (icells ys) from
        ⟨hrd.chg hcs (fun i hi he => by omega), (HC.out.trans hch).own hcs (by omega), hH4.chg hcs (by omega), ((hS4.set_ 0 _).set_ 1 _).set_ 2 _, (hrd4.mono (G := fun i => S < i) (fun i _ hi => by omega)).chg hcs (fun i hi he => by omega)⟩)
      clear hS4 hH4 hb hrd hch hcs hrd4
      go_wp2_with fail
      go_roundw
      case rel => exact ⟨k - 1, M + 12, b, e, A', c', ys, by go_num, by omega, HN.out.1, by omega, HN.out.2.1, HN.out.2.2.1, HN.out.2.2.2.1, HN.out.2.2.2.2, hle4, hcm4, Lib.hid hok4⟩
      case measure => simp [intOf]; omega
    · obtain rfl : k = 0 := by omega
      go_wp2_with fail
      refine (odd_any g _ n _ hr (by omega) hn0 hn).mono ?_
      rintro e' w5 ⟨f5, rfl, _, hc5, hr5⟩
      have HC5 := Lib.hid (HC.out.trans hc5)
      have hS5 := HS.out.chg hc5 (by omega)
      have hH5 := HH.out.chg hc5 (by have := h.lt; omega)
      have HR5 := Lib.hid (HRX.out.chg hc5 (fun i hi he => by omega))
      have HS5 := Lib.hid hS5
      have HH5 := Lib.hid hH5
      cases f5
      · have x0 : w5.cell? ⟨S, 0, none⟩ = some (.int .i64 b) := (hS5.cell _).trans rfl
        have x1 : w5.cell? ⟨S, 1, none⟩ = some (.int .i64 e) := (hS5.cell _).trans rfl
        have x2 : w5.cell? ⟨S, 2, none⟩ = some (.slice A xs.length c0) := (hS5.cell _).trans rfl
        have y0 : w5.cell? ⟨w.heap.size, 0, none⟩ = some (.int .i64 0) := (hH5.cell _).trans rfl
        have y1 : w5.cell? ⟨w.heap.size, 1, none⟩ = some (.int .i64 0) := (hH5.cell _).trans rfl
        have y2 : w5.cell? ⟨w.heap.size, 2, none⟩ = some (.slice none 0 0) := (hH5.cell _).trans rfl
        have f0 := hH5.frozen 0
        have f1 := hH5.frozen 1
        have f2 := hH5.frozen 2
        clear hc5 hS5 hH5 s0 s1 s2
        go_wp2_with fail
        (try simp only [Exit.inBlock, Exit.then])
        refine bodyPost_ret (v := .agg #[.int .i64 b, .int .i64 e, .slice A xs.length c0]) (by simp [results, Try.results47, go_sem, *]) rfl ?_
        have hcs : Chg (· = w.heap.size) w5 (((w5.setCell ⟨w.heap.size, 0, none⟩ (.int .i64 b)).setCell ⟨w.heap.size, 1, none⟩ (.int .i64 e)).setCell ⟨w.heap.size, 2, none⟩ (.slice A xs.length c0)) := (((Chg.refl (· = w.heap.size) w5).setCell (p := ⟨w.heap.size, 0, none⟩) (.inl rfl) _).setCell (p := ⟨w.heap.size, 1, none⟩) (.inl rfl) _).setCell (p := ⟨w.heap.size, 2, none⟩) (.inl rfl) _
        exact ⟨_, rfl, ⟨b, e, A, c0, xs, rfl, (HR5.out.chg hcs (fun i hi he => by omega)).mono (fun i _ hi => by omega), hle, by unfold maxLen; omega, by omega, by have := hok.out.1; omega, by have := hok.out.2.1; omega⟩, HC5.out.own hcs (Nat.le_refl _), (hr5.chg hcs (fun i hi he => by omega)).more (by omega)⟩
      · go_wp2_with fail
        have hg5 := hr5.lt
        have hS5' := hS5.lt
        obtain ⟨wa, hwa⟩ : ∃ wa, w5.alloc (.cells #[.int .i64 4] 3) = wa := ⟨_, rfl⟩
        obtain ⟨wb, hwb⟩ : ∃ wb, wa.alloc (.cells #[.int .i64 1, .int .i64 1] 3) = wb := ⟨_, rfl⟩
        obtain ⟨wc, hwc⟩ : ∃ wc, wb.alloc (.cells #[.int .i64 1] 3) = wc := ⟨_, rfl⟩
        obtain ⟨wd, hwd⟩ : ∃ wd, wc.alloc (.cells #[.int .i64 (-1)] 3) = wd := ⟨_, rfl⟩
        rw [hwa, hwb, hwc, hwd]
        have qa : Chg NoB w5 wa := by rw [← hwa]; exact (Chg.refl _ _).alloc _
        have qb : Chg NoB wa wb := by rw [← hwb]; exact (Chg.refl _ _).alloc _
        have qc : Chg NoB wb wc := by rw [← hwc]; exact (Chg.refl _ _).alloc _
        have qd : Chg NoB wc wd := by rw [← hwd]; exact (Chg.refl _ _).alloc _
        have ba : Blk wa w5.heap.size 3 #[.int .i64 4] := by rw [← hwa]; exact Blk.new _ _ _
        have sa : wa.heap.size = w5.heap.size + 1 := by rw [← hwa]; exact World.size_alloc ..
        have bb : Blk wb (w5.heap.size + 1) 3 #[.int .i64 1, .int .i64 1] := by rw [← hwb, ← sa]; exact Blk.new _ _ _
        have sb : wb.heap.size = w5.heap.size + 1 + 1 := by rw [← hwb, World.size_alloc, sa]
        have bc : Blk wc (w5.heap.size + 1 + 1) 3 #[.int .i64 1] := by rw [← hwc, ← sb]; exact Blk.new _ _ _
        have sc : wc.heap.size = w5.heap.size + 1 + 1 + 1 := by rw [← hwc, World.size_alloc, sb]
        have bd : Blk wd (w5.heap.size + 1 + 1 + 1) 3 #[.int .i64 (-1)] := by rw [← hwd, ← sc]; exact Blk.new _ _ _
        have sd : wd.heap.size = w5.heap.size + 1 + 1 + 1 + 1 := by rw [← hwd, World.size_alloc, sc]
        have qe : Chg NoB wd (wd.alloc (.cells #[.int .i64 0, .int .i64 0, .slice none 0 0, .int .i64 4, .int .i64 3, .slice (some ⟨w5.heap.size, 0, none⟩) 1 1, .int .i64 4, .int .i64 3, .slice (some ⟨w5.heap.size + 1, 0, none⟩) 2 2, .int .i64 4, .int .i64 0, .slice (some ⟨w5.heap.size + 1 + 1, 0, none⟩) 1 1, .int .i64 13, .int .i64 0, .slice none 0 0, .int .i64 4, .int .i64 3, .slice (some ⟨w5.heap.size + 1 + 1 + 1, 0, none⟩) 1 1] 42)) := (Chg.refl _ _).alloc _
        have be := Blk.new wd 42 #[.int .i64 0, .int .i64 0, .slice none 0 0, .int .i64 4, .int .i64 3, .slice (some ⟨w5.heap.size, 0, none⟩) 1 1, .int .i64 4, .int .i64 3, .slice (some ⟨w5.heap.size + 1, 0, none⟩) 2 2, .int .i64 4, .int .i64 0, .slice (some ⟨w5.heap.size + 1 + 1, 0, none⟩) 1 1, .int .i64 13, .int .i64 0, .slice none 0 0, .int .i64 4, .int .i64 3, .slice (some ⟨w5.heap.size + 1 + 1 + 1, 0, none⟩) 1 1]
        rw [sd] at be
        have qq := (((qa.trans qb).trans qc).trans qd).trans qe
        have Ra := Lib.hid (((((ba.chg qb (fun x => x)).chg qc (fun x => x)).chg qd (fun x => x)).chg qe (fun x => x)))
        have Rb := Lib.hid ((((bb.chg qc (fun x => x)).chg qd (fun x => x)).chg qe (fun x => x)))
        have Rc := Lib.hid (((bc.chg qd (fun x => x)).chg qe (fun x => x)))
        have Rd' := Lib.hid ((bd.chg qe (fun x => x)))
        have Re := Lib.hid be
        have HQ := Lib.hid qq
        clear ba bb bc bd be qa qb qc qd qe qq hwa hwb hwc hwd sa sb sc sd
        refine (pick_any g _ 6 _ (hr5.chg HQ.out (fun _ _ x => x)) (by omega) (by omega) (by omega)).mono ?_
        rintro e' w6 ⟨l, rfl, hl, hc6, hr6⟩
        have HC6 := Lib.hid ((HC5.out.trans' HQ.out (fun _ x => x.elim)).trans hc6)
        have hH6 := (HH5.out.chg HQ.out (fun x => x)).chg hc6 (by have := h.lt; omega)
        have hre := Re.out.chg hc6 (by omega)
        obtain ⟨b6, e6, A6, c6, xs6, hcell1, hcell2, hcell3, hrd6, hle6, hc50, hx20, hb60, hb61⟩ : ∃ (b6 e6 : Int) (A6 : Option Addr) (c6 : Nat) (xs6 : List Int), w6.cell? ⟨w5.heap.size + 1 + 1 + 1 + 1, l * 3, none⟩ = some (.int .i64 b6) ∧ w6.cell? ⟨w5.heap.size + 1 + 1 + 1 + 1, l * 3 + 1, none⟩ = some (.int .i64 e6) ∧ w6.cell? ⟨w5.heap.size + 1 + 1 + 1 + 1, l * 3 + 2, none⟩ = some (.slice A6 xs6.length c6) ∧ Hid (Rd (fun i => S < i) w6 A6 (icells xs6)) ∧ xs6.length ≤ c6 ∧ c6 ≤ 50 ∧ xs6.length ≤ 20 ∧ 0 ≤ b6 ∧ b6 ≤ 13 := by
          obtain rfl | rfl | rfl | rfl | rfl | rfl : l = 0 ∨ l = 1 ∨ l = 2 ∨ l = 3 ∨ l = 4 ∨ l = 5 := by omega
          · exact ⟨0, 0, none, 0, [], (hre.cell _).trans rfl, (hre.cell _).trans rfl, (hre.cell _).trans rfl, Lib.hid (Rd.nil _ _ _), by simp, by omega, by simp, by omega, by omega⟩
          · exact ⟨4, 3, _, 1, [4], (hre.cell _).trans rfl, (hre.cell _).trans rfl, (hre.cell _).trans rfl, Lib.hid ((Ra.out.chg hc6 (by omega)).rd.mono fun i _ hi => by omega), by simp, by omega, by simp, by omega, by omega⟩
          · exact ⟨4, 3, _, 2, [1, 1], (hre.cell _).trans rfl, (hre.cell _).trans rfl, (hre.cell _).trans rfl, Lib.hid ((Rb.out.chg hc6 (by omega)).rd.mono fun i _ hi => by omega), by simp, by omega, by simp, by omega, by omega⟩
          · exact ⟨4, 0, _, 1, [1], (hre.cell _).trans rfl, (hre.cell _).trans rfl, (hre.cell _).trans rfl, Lib.hid ((Rc.out.chg hc6 (by omega)).rd.mono fun i _ hi => by omega), by simp, by omega, by simp, by omega, by omega⟩
          · exact ⟨13, 0, none, 0, [], (hre.cell _).trans rfl, (hre.cell _).trans rfl, (hre.cell _).trans rfl, Lib.hid (Rd.nil _ _ _), by simp, by omega, by simp, by omega, by omega⟩
          · exact ⟨4, 3, _, 1, [-1], (hre.cell _).trans rfl, (hre.cell _).trans rfl, (hre.cell _).trans rfl, Lib.hid ((Rd'.out.chg hc6 (by omega)).rd.mono fun i _ hi => by omega), by simp, by omega, by simp, by omega, by omega⟩
        have y0 : w6.cell? ⟨w.heap.size, 0, none⟩ = some (.int .i64 0) := (hH6.cell _).trans rfl
        have y1 : w6.cell? ⟨w.heap.size, 1, none⟩ = some (.int .i64 0) := (hH6.cell _).trans rfl
        have y2 : w6.cell? ⟨w.heap.size, 2, none⟩ = some (.slice none 0 0) := (hH6.cell _).trans rfl
        have f0 := hH6.frozen 0
        have f1 := hH6.frozen 1
        have f2 := hH6.frozen 2
        have hl0 : (0 : Int) ≤ (l : Int) := Int.natCast_nonneg _
        clear hc5 hS5 hH5 s0 s1 s2 hre hH6 hc6
        go_wp2_with fail
        (try simp only [Exit.inBlock, Exit.then])
        refine bodyPost_ret (v := .agg #[.int .i64 b6, .int .i64 e6, .slice A6 xs6.length c6]) (by simp [results, Try.results47, go_sem, *]) rfl ?_
        have hcs : Chg (· = w.heap.size) w6 (((w6.setCell ⟨w.heap.size, 0, none⟩ (.int .i64 b6)).setCell ⟨w.heap.size, 1, none⟩ (.int .i64 e6)).setCell ⟨w.heap.size, 2, none⟩ (.slice A6 xs6.length c6)) := (((Chg.refl (· = w.heap.size) w6).setCell (p := ⟨w.heap.size, 0, none⟩) (.inl rfl) _).setCell (p := ⟨w.heap.size, 1, none⟩) (.inl rfl) _).setCell (p := ⟨w.heap.size, 2, none⟩) (.inl rfl) _
        exact ⟨_, rfl, ⟨b6, e6, A6, c6, xs6, rfl, (hrd6.out.chg hcs (fun i hi he => by omega)).mono (fun i _ hi => by omega), hle6, by unfold maxLen; omega, by omega, hb60, hb61⟩, HC6.out.own hcs (Nat.le_refl _), (hr6.chg hcs (fun i hi he => by omega)).more (by omega)⟩
end Go.Proofs.Ytdblfcmmeggpdaa
