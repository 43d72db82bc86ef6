/- The draw of a save. -/
import Derived.Test.YtbgepefdfioljaaTr
import Derived.Test.YtbgepefdfioljaaTu
namespace Go.Proofs.Ytbgepefdfioljaa
open Go.RowKit
def SvDrawn (g N : Nat) (w : World) (e : Ending) (w' : World) : Prop :=
  ∃ n A c ys s, e = .returned (.agg #[.int .i64 n, .slice A (ys : List Int).length c, .int .i64 s]) ∧ Rd (fun i => w.heap.size ≤ i) w' A (icells ys) ∧ ys.length ≤ c ∧ c ≤ maxLen ∧ ys.length ≤ 48 ∧ (0 ≤ n ∧ n ≤ 100) ∧ (-1 ≤ s ∧ s ≤ 100000) ∧ Chg (· = g) w w' ∧ Rdr w' g N
def svPost (g V gy cy : Nat) (i : Nat) : Value → World → Prop :=
  match i with
  | 0 | 3 => fun v _ => v = .pointer (some ⟨V, 1, none⟩)
  | 1 | 4 => fun v _ => v = .slice (some ⟨gy, 0, none⟩) 48 cy
  | 2 => isPtr g
  | 5 => fun v _ => v = .int .i64 48
  | 6 => isNat 48
  | 7 => fun v _ => ∃ k : Nat, v = .pointer (some ⟨gy, k, none⟩) ∧ k < 48
  | _ => fun _ _ => True
theorem svPost_stab {g V gy cy i : Nat} {v : Value} {w1 w2 : World} (h : svPost g V gy cy i v w1) : svPost g V gy cy i v w2 := by
  unfold svPost at *
  split at h
  all_goals exact h
theorem Blk.front {F : Nat → Prop} {w : World} {g : Nat} {t : TypeId} {cs rest : List Value} (h : Blk w g t (cs ++ rest).toArray) (hF : F g) : Rd F w (some ⟨g, 0, none⟩) cs := fun k v hk => by
  obtain ⟨ad, e, hf, hc⟩ := h.rd k v (by rw [List.getElem?_append_left (List.getElem?_eq_some_iff.1 hk).1]; exact hk)
  exact ⟨ad, e, by rw [hf]; exact hF, hc⟩
theorem chg3 {F : Nat → Prop} {w W : World} {g : Nat} {a b c : Value} (h : Chg F w W) (hg : F g ∨ w.heap.size ≤ g) :
    Chg F w (((W.setCell ⟨g, 0, none⟩ a).setCell ⟨g, 1, none⟩ b).setCell ⟨g, 2, none⟩ c) :=
  ((h.setCell (p := ⟨g, 0, none⟩) hg _).setCell (p := ⟨g, 1, none⟩) hg _).setCell (p := ⟨g, 2, none⟩) hg _
set_option maxRecDepth 100000 in
set_option maxHeartbeats 4000000 in
theorem l20Save_any (g N : Nat) (n : Int) (w : World) (h : Rdr w g N) (hN : N ≤ 100000) (hn0 : 0 ≤ n) (hn : n ≤ 1000000) :
    Calls Try.prog 74 #[.pointer (some ⟨g, 0, none⟩), .int .i64 n] w (SvDrawn g (N + 320) w) := by
  have hg0 := h.lt
  have hca := (Chg.refl NoB w).alloc (.cells #[.int .i64 0, .slice none 0 0, .int .i64 0] 37)
  have HR0 := Lib.hid (Blk.new w 37 #[.int .i64 0, .slice none 0 0, .int .i64 0])
  have HC0 := Lib.hid hca
  have HD0 := Lib.hid (h.alloc (.cells #[.int .i64 0, .slice none 0 0, .int .i64 0] 37))
  clear hca
  go_enter Try.func74, Try.ntmps74
  go_wp2_with fail
  refine (l20Table_any g N 0 _ HD0.out (by omega) (by omega) (by omega)).mono ?_
  rintro e w1 ⟨v, rfl, ⟨A1, c1, X, rfl, ht, hl8, hl6, hok⟩, hc1, hr1⟩
  have hok1 := hok rfl
  have HOK := Lib.hid hok1
  have HC1 := Lib.hid ((HC0.out.mono (fun _ _ x => x.elim) : Chg (· = g) w _).trans hc1)
  have HR1 := Lib.hid (HR0.out.chg hc1 (by omega))
  have HT1 := Lib.hid ht
  clear hc1 ht hok hok1
  go_wp2_with fail
  refine (pick_any g _ 20 _ hr1 (by omega) (by omega) (by omega)).mono ?_
  rintro e w2 ⟨k, rfl, hk, hc2, hr2⟩
  have HC2 := Lib.hid (HC1.out.trans hc2)
  have HR2 := Lib.hid (HR1.out.chg hc2 (by omega))
  have HT2 := Lib.hid (HT1.out.chg hc2 (fun i h1 h2 => by rw [World.size_alloc] at h1; omega))
  have hsz2 := HR2.out.lt
  clear hc2
  go_wp2_with fail
  refine (sSaveTable_any _ A1 c1 X k _ HT2.out (by omega) (fun r hr => by have := hl6 r hr; omega)).mono ?_
  rintro e w3 ⟨N1, A2, cy, ys, S, rfl, ho3, hcm3, hI, hc3⟩
  have hsav : savArgs X k := ⟨HOK.out, by omega, by omega⟩
  obtain ⟨rfl, hys, hS⟩ := hI.out.1 hsav
  have hy48 : ys.length = 48 := by rw [hys, flat_len HOK.out]
  have hSr : -1 ≤ S ∧ S < 99991 := by rw [hS]; exact saveSum_lo _ _
  obtain ⟨gy, rst, rfl, hgB, hgE, hby⟩ : ∃ gy rst, A2 = some ⟨gy, 0, none⟩ ∧ w2.heap.size ≤ gy ∧ gy < w3.heap.size ∧ Blk w3 gy 3 (icells ys ++ rst).toArray := by
    rcases ho3.2 with ⟨h0, _⟩ | ⟨g', rest, h1, h2, h3, h4⟩
    · omega
    · exact ⟨g', rest, h1, h2, h3, h4⟩
  have hcy : 48 ≤ cy := by have := ho3.1; omega
  have HCM := Lib.hid hcm3
  rw [hy48]
  have hca := (Chg.refl NoB w3).alloc (.cells #[.int .i64 k, .slice (some ⟨gy, 0, none⟩) 48 cy, .int .i64 S] 37)
  have hv3 := Blk.new w3 37 #[.int .i64 k, .slice (some ⟨gy, 0, none⟩) 48 cy, .int .i64 S]
  have hc4 : Chg (· = g) w _ := HC2.out.trans ((hc3.trans hca).mono (fun _ _ x => x.elim))
  have hr4 := hr2.chg (hc3.trans hca) (fun _ _ x => x)
  have hR4 := HR2.out.chg (hc3.trans hca) (fun x => x)
  have hY4 := hby.chg hca (fun x => x)
  have hgz : w.heap.size < w3.heap.size := by have := hc3.size; omega
  clear hI hsav hys hS ho3 hcm3 hc3 hca hby
  go_wp2_with fail
  obtain ⟨V, hV⟩ : ∃ V, w3.heap.size = V := ⟨_, rfl⟩
  obtain ⟨w4, hw4⟩ : ∃ w4, w3.alloc (.cells #[.int .i64 (k : Int), .slice (some ⟨gy, 0, none⟩) 48 cy, .int .i64 S] 37) = w4 := ⟨_, rfl⟩
  rw [hw4] at hv3 hc4 hr4 hR4 hY4 ⊢
  rw [hV] at hv3 hgE hgz ⊢
  have HV4 := Lib.hid hv3
  have HC4 := Lib.hid hc4
  have HR4 := Lib.hid hR4
  have HY4 := Lib.hid hY4
  have hgg : g < gy := by have := hr2.lt; omega
  have hHy : w.heap.size < gy := by omega
  clear hV hw4 hv3 hc4 hR4 hY4 HR2 HT2 HC2 HT1 HR1 HC1
  refine (odd_any g _ n _ hr4 (by omega) (by omega) (by omega)).mono ?_
  rintro e w5 ⟨b, rfl, hb0, hc5, hr5⟩
  have HC5 := Lib.hid (HC4.out.trans hc5)
  have HR5 := Lib.hid (HR4.out.chg hc5 (by omega))
  have HV5 := Lib.hid (HV4.out.chg hc5 (by omega))
  have HY5 := Lib.hid (HY4.out.chg hc5 (by omega))
  -- the end: a save that lies in the box is laid into the result
  have HEND : ∀ (wq : World) (n : Int) (A : Option Addr) (c : Nat) (zs : List Int) (s : Int), Chg (· = g) w wq → Rdr wq g (N + 320) → Rd (fun i => w.heap.size < i ∧ i ≠ V) wq A (icells zs) → zs.length ≤ c → c ≤ maxLen → zs.length ≤ 48 → (0 ≤ n ∧ n ≤ 100) → (-1 ≤ s ∧ s ≤ 100000) →
      Hid (SvDrawn g (N + 320) w (.returned (.agg #[.int .i64 n, .slice A zs.length c, .int .i64 s])) (((wq.setCell ⟨w.heap.size, 0, none⟩ (.int .i64 n)).setCell ⟨w.heap.size, 1, none⟩ (.slice A zs.length c)).setCell ⟨w.heap.size, 2, none⟩ (.int .i64 s))) := fun wq n A c zs s hc hd hz h1 h2 h3 h4 h5 => Lib.hid (by
    have hcs := chg3 (F := (· = w.heap.size)) (a := .int .i64 n) (b := .slice A zs.length c) (c := .int .i64 s) (Chg.refl (· = w.heap.size) wq) (.inl rfl)
    exact ⟨n, A, c, zs, s, rfl, (hz.chg hcs (fun i h1 h2 => by omega)).mono (fun i _ h => Nat.le_of_lt h.1), h1, h2, h3, h4, h5, hc.own hcs (Nat.le_refl _), hd.chg hcs (fun i hi he => by omega)⟩)
  have hRB := HR5.out
  have hVB := HV5.out
  have r0 : w5.cell? ⟨w.heap.size, 0, none⟩ = some (.int .i64 0) := (hRB.cell _).trans rfl
  have rf0 := hRB.frozen 0
  have r1 : w5.cell? ⟨w.heap.size, 1, none⟩ = some (.slice none 0 0) := (hRB.cell _).trans rfl
  have rf1 := hRB.frozen 1
  have r2 : w5.cell? ⟨w.heap.size, 2, none⟩ = some (.int .i64 0) := (hRB.cell _).trans rfl
  have rf2 := hRB.frozen 2
  have v0 : w5.cell? ⟨V, 0, none⟩ = some (.int .i64 k) := (hVB.cell _).trans rfl
  have vf0 := hVB.frozen 0
  have v1 : w5.cell? ⟨V, 1, none⟩ = some (.slice (some ⟨gy, 0, none⟩) 48 cy) := (hVB.cell _).trans rfl
  have vf1 := hVB.frozen 1
  have v2 : w5.cell? ⟨V, 2, none⟩ = some (.int .i64 S) := (hVB.cell _).trans rfl
  have vf2 := hVB.frozen 2
  have hne1 : V ≠ w.heap.size := by omega
  have hne2 : w.heap.size ≠ V := by omega
  have HRD5 := Lib.hid (show Rd (fun i => w.heap.size < i ∧ i ≠ V) w5 (some ⟨gy, 0, none⟩) (icells ys) from HY5.out.front ⟨by omega, by omega⟩)
  clear hRB hVB hc5 hb0
  cases b
  · go_wp2_with fail
    (try simp only [Exit.inBlock, Exit.then])
    refine bodyPost_ret (v := .agg #[.int .i64 k, .slice (some ⟨gy, 0, none⟩) 48 cy, .int .i64 S]) (by simp [results, Try.results74, go_sem, *]) rfl ?_
    have h1 := (HEND w5 k (some ⟨gy, 0, none⟩) cy ys S HC5.out (hr5.more (by omega)) HRD5.out (by omega) HCM.out (by omega) (by omega) (by omega)).out
    rw [hy48] at h1
    exact h1
  · go_wp2_with fail
    refine (pick_any g _ 4 _ hr5 (by omega) (by omega) (by omega)).mono ?_
    rintro e w6 ⟨kq, rfl, hkq, hc6, hr6⟩
    have HC6 := Lib.hid (HC5.out.trans hc6)
    have HR6 := Lib.hid (HR5.out.chg hc6 (by omega))
    have HV6 := Lib.hid (HV5.out.chg hc6 (by omega))
    have HY := Lib.hid (HY5.out.chg hc6 (by omega))
    have HRD6 := Lib.hid (HRD5.out.chg hc6 (fun i h1 h2 => by have := hr6.lt; omega))
    have hRB := HR6.out
    have hVB := HV6.out
    clear r0 rf0 r1 rf1 r2 rf2 v0 vf0 v1 vf1 v2 vf2
    have r0 : w6.cell? ⟨w.heap.size, 0, none⟩ = some (.int .i64 0) := (hRB.cell _).trans rfl
    have rf0 := hRB.frozen 0
    have r1 : w6.cell? ⟨w.heap.size, 1, none⟩ = some (.slice none 0 0) := (hRB.cell _).trans rfl
    have rf1 := hRB.frozen 1
    have r2 : w6.cell? ⟨w.heap.size, 2, none⟩ = some (.int .i64 0) := (hRB.cell _).trans rfl
    have rf2 := hRB.frozen 2
    have v0 : w6.cell? ⟨V, 0, none⟩ = some (.int .i64 k) := (hVB.cell _).trans rfl
    have vf0 := hVB.frozen 0
    have v1 : w6.cell? ⟨V, 1, none⟩ = some (.slice (some ⟨gy, 0, none⟩) 48 cy) := (hVB.cell _).trans rfl
    have vf1 := hVB.frozen 1
    have v2 : w6.cell? ⟨V, 2, none⟩ = some (.int .i64 S) := (hVB.cell _).trans rfl
    have vf2 := hVB.frozen 2
    clear hRB hVB hc6
    rcases (show kq = 0 ∨ kq = 1 ∨ kq = 2 ∨ kq = 3 by omega) with rfl | rfl | rfl | rfl
    · go_wp2_with fail
      (try simp only [Exit.inBlock, Exit.then])
      refine bodyPost_ret (v := .agg #[.int .i64 0, .slice none 0 0, .int .i64 0]) (by simp [results, Try.results74, go_sem, *]) rfl ?_
      exact (HEND w6 0 none 0 [] 0 HC6.out (hr6.more (by omega)) (Rd.nil _ _ _) (Nat.le_refl _) (Nat.zero_le _) (by simp) (by omega) (by omega)).out
    · have hcs : Chg (· = V) w6 (w6.setCell ⟨V, 2, none⟩ (.int .i64 (S + 1))) := (Chg.refl (· = V) w6).setCell (p := ⟨V, 2, none⟩) (.inl rfl) _
      have HCS := Lib.hid hcs
      clear hcs
      go_wp2_with fail
      (try simp only [Exit.inBlock, Exit.then])
      refine bodyPost_ret (v := .agg #[.int .i64 k, .slice (some ⟨gy, 0, none⟩) 48 cy, .int .i64 (S + 1)]) (by simp [results, Try.results74, go_sem, *]) rfl ?_
      have h1 := (HEND _ k (some ⟨gy, 0, none⟩) cy ys (S + 1) (HC6.out.own HCS.out (by omega)) ((hr6.chg HCS.out (fun i hi he => by omega)).more (by omega)) (HRD6.out.chg HCS.out (fun i h1 h2 => by omega)) (by omega) HCM.out (by omega) (by omega) (by omega)).out
      rw [hy48] at h1
      exact h1
    · go_wp2_with fail
      have hg6 := hr6.lt
      refine wp_region_rg (WInv := fun cc m w5 => Rdr w5 g (N + 300 + 1 + 1 + 1 + cc) ∧ cc ≤ 9 ∧ StoI g gy w6 (fun w => ∃ ys' : List Int, Blk w gy 3 (icells ys' ++ rst).toArray ∧ ys'.length = 48) 8 m w5) (R := Chg (fun k => k = g ∨ k = gy)) (Post := svPost g V gy cy) (by kernel_rfl) (by kernel_rfl) ?_ (fun i v w1 w2 h _ => svPost_stab h) ⟨hr6.drew, by omega, (Chg.refl _ _).drew, fun _ => (Chg.refl _ _).drew, fun hh => absurd rfl hh⟩ ⟨?_, ?_, ?_, ?_, ?_, ?_, ?_, ?_, ?_, trivial⟩ ?_
      · rintro c c' m w ⟨h1, h2, h5⟩ h3 h4
        exact ⟨h1.more (by omega), h4, h5⟩
      · rintro kc m a w5 hkc ⟨hrd, hcc, hst⟩ hm hn
        have e1 : a.tmps[5]?.getD undef = .pointer (some ⟨V, 0, none⟩) := hn.1
        exact rg_val (v := .pointer (some ⟨V, 1, none⟩)) (by simp [execOp, go_sem, e1]) rfl ⟨hrd.more (by omega), hkc, hst.keep (by decide) (Chg.refl _ _) (fun x => x)⟩ (Chg.refl _ _) rfl
      · rintro kc m a w5 hkc ⟨hrd, hcc, hst⟩ hm hn
        obtain ⟨⟨_, e1, _, rfl⟩, -⟩ := hn
        have x0 := hst.1.cell v1 (by simp only; omega)
        exact rg_val (v := .slice (some ⟨gy, 0, none⟩) 48 cy) (by simp [execOp, go_sem, e1, x0]) rfl ⟨hrd.more (by omega), hkc, hst.keep (by decide) (Chg.refl _ _) (fun x => x)⟩ (Chg.refl _ _) rfl
      · rintro kc m a w5 hkc ⟨hrd, hcc, hst⟩ hm hn
        have e1 : a.tmps[0]?.getD undef = .pointer (some ⟨g, 0, none⟩) := hn.1
        exact rg_val (v := .pointer (some ⟨g, 0, none⟩)) (by simp [execOp, go_sem, e1]) rfl ⟨hrd.more (by omega), hkc, hst.keep (by decide) (Chg.refl _ _) (fun x => x)⟩ (Chg.refl _ _) rfl
      · rintro kc m a w5 hkc ⟨hrd, hcc, hst⟩ hm hn
        have e1 : a.tmps[5]?.getD undef = .pointer (some ⟨V, 0, none⟩) := hn.1
        exact rg_val (v := .pointer (some ⟨V, 1, none⟩)) (by simp [execOp, go_sem, e1]) rfl ⟨hrd.more (by omega), hkc, hst.keep (by decide) (Chg.refl _ _) (fun x => x)⟩ (Chg.refl _ _) rfl
      · rintro kc m a w5 hkc ⟨hrd, hcc, hst⟩ hm hn
        obtain ⟨⟨_, e1, _, rfl⟩, -⟩ := hn
        have x0 := hst.1.cell v1 (by simp only; omega)
        exact rg_val (v := .slice (some ⟨gy, 0, none⟩) 48 cy) (by simp [execOp, go_sem, e1, x0]) rfl ⟨hrd.more (by omega), hkc, hst.keep (by decide) (Chg.refl _ _) (fun x => x)⟩ (Chg.refl _ _) rfl
      · rintro kc m a w5 hkc ⟨hrd, hcc, hst⟩ hm hn
        obtain ⟨⟨_, e1, _, rfl⟩, -⟩ := hn
        exact rg_val (v := .int .i64 48) (by simp [go_sem, e1]) rfl ⟨hrd.more (by omega), hkc, hst.keep (by decide) (Chg.refl _ _) (fun x => x)⟩ (Chg.refl _ _) rfl
      · rintro kc m a w5 hkc ⟨hrd, hcc, hst⟩ hm hn
        obtain ⟨⟨_, e1, _, rfl⟩, ⟨_, e2, _, rfl⟩, -⟩ := hn
        refine rg_call (f := 53) (args := #[.pointer (some ⟨g, 0, none⟩), .int .i64 48]) (by simp [go_sem, e1, e2]) rfl ?_
        refine (pick_any g _ 48 _ hrd (by omega) (by omega) (by omega)).mono ?_
        rintro e' w6 ⟨kk, rfl, hkk, hc6, hr6⟩
        exact ⟨_, rfl, ⟨hr6, hkc, hst.keep (by decide) hc6 (fun ⟨ys', hx, hy⟩ => ⟨ys', hx.chg hc6 (by omega), hy⟩)⟩, hc6.mono (fun _ _ x => .inl x), kk, rfl, by omega⟩
      · rintro kc m a w5 hkc ⟨hrd, hcc, hst⟩ hm hn
        obtain ⟨⟨_, e1, _, rfl⟩, ⟨_, e2, _, k, rfl, hk2⟩, -⟩ := hn
        have hk3 : (k : Int) < 48 := by omega
        exact rg_val (v := .pointer (some ⟨gy, k, none⟩)) (by simp [execOp, go_sem, e1, e2]; exact fun hh => absurd hh (by omega)) rfl ⟨hrd.more (by omega), hkc, hst.keep (by decide) (Chg.refl _ _) (fun x => x)⟩ (Chg.refl _ _) ⟨k, rfl, hk2⟩
      · rintro kc m a w5 hkc ⟨hrd, hcc, hst⟩ hm hn
        obtain ⟨⟨_, e1, _, k, rfl, hk2⟩, -⟩ := hn
        have hch := hst.2.1 hm
        have yb := HY.out.chg hch (by omega)
        have hkl : k < ys.length := by omega
        have y0 := row_cell yb hkl
        have yf := yb.frozen k
        have hcs : Chg (· = gy) w5 (w5.setCell ⟨gy, k, none⟩ (.int .i64 47)) := (Chg.refl (· = gy) w5).setCell (p := ⟨gy, k, none⟩) (.inl rfl) _
        exact rg_skip (w' := w5.setCell ⟨gy, k, none⟩ (.int .i64 47)) (by simp [execOp, go_sem, e1, y0, yf]) rfl ⟨(hrd.chg hcs (fun i hi he => by omega)).more (by omega), hkc, hst.store hcs ⟨ys.set k 47, row_store yb hkl 47, by rw [List.length_set]; exact hy48⟩⟩ (hcs.mono (fun _ _ x => .inr x)) trivial
      rintro m w7 ⟨hrd, hcc, hst⟩
      simp only [AllVals]
      rintro v0' m0 p0 v1' m1 p1 v2' m2 p2 v3' m3 p3 v4' m4 p4 v5' m5 p5 v6' m6 p6 v7' m7 p7 v8' m8 p8
      obtain ⟨zs, hz, hzl⟩ := hst.2.2 (by rw [m8]; simp)
      have hR7 := HR6.out.chg hst.1 (by omega)
      have hV7 := HV6.out.chg hst.1 (by omega)
      have HC7 := Lib.hid (show Chg (· = g) w w7 from HC6.out.trans' hst.1 (fun i hi => by rcases hi with h1 | h1; exact .inl h1; exact .inr (by omega)))
      have HD7 := Lib.hid (hrd.more (show _ ≤ N + 320 by omega))
      have HRD7 := Lib.hid (show Rd (fun i => w.heap.size < i ∧ i ≠ V) w7 (some ⟨gy, 0, none⟩) (icells zs) from hz.front ⟨by omega, by omega⟩)
      clear r0 rf0 r1 rf1 r2 rf2 v0 vf0 v1 vf1 v2 vf2 p0 p1 p2 p3 p4 p5 p6 p7 p8 hst hrd hz
      have r0 : w7.cell? ⟨w.heap.size, 0, none⟩ = some (.int .i64 0) := (hR7.cell _).trans rfl
      have rf0 := hR7.frozen 0
      have r1 : w7.cell? ⟨w.heap.size, 1, none⟩ = some (.slice none 0 0) := (hR7.cell _).trans rfl
      have rf1 := hR7.frozen 1
      have r2 : w7.cell? ⟨w.heap.size, 2, none⟩ = some (.int .i64 0) := (hR7.cell _).trans rfl
      have rf2 := hR7.frozen 2
      have v0 : w7.cell? ⟨V, 0, none⟩ = some (.int .i64 k) := (hV7.cell _).trans rfl
      have vf0 := hV7.frozen 0
      have v1 : w7.cell? ⟨V, 1, none⟩ = some (.slice (some ⟨gy, 0, none⟩) 48 cy) := (hV7.cell _).trans rfl
      have vf1 := hV7.frozen 1
      have v2 : w7.cell? ⟨V, 2, none⟩ = some (.int .i64 S) := (hV7.cell _).trans rfl
      have vf2 := hV7.frozen 2
      clear hR7 hV7
      simp only [Act.put, List.setIfInBounds_toArray, List.set_cons_succ, List.set_cons_zero]
      go_wp2_with fail
      (try simp only [Exit.inBlock, Exit.then])
      refine bodyPost_ret (v := .agg #[.int .i64 k, .slice (some ⟨gy, 0, none⟩) 48 cy, .int .i64 S]) (by simp [results, Try.results74, go_sem, *]) rfl ?_
      have h1 := (HEND w7 k (some ⟨gy, 0, none⟩) cy zs S HC7.out HD7.out HRD7.out (by omega) HCM.out (by omega) (by omega) (by omega)).out
      rw [hzl] at h1
      exact h1
    · have hcs : Chg (· = V) w6 (w6.setCell ⟨V, 0, none⟩ (.int .i64 (k + 1))) := (Chg.refl (· = V) w6).setCell (p := ⟨V, 0, none⟩) (.inl rfl) _
      have HCS := Lib.hid hcs
      clear hcs
      go_wp2_with fail
      (try simp only [Exit.inBlock, Exit.then])
      refine bodyPost_ret (v := .agg #[.int .i64 (k + 1), .slice (some ⟨gy, 0, none⟩) 48 cy, .int .i64 S]) (by simp [results, Try.results74, go_sem, *]) rfl ?_
      have h1 := (HEND _ (k + 1) (some ⟨gy, 0, none⟩) cy ys S (HC6.out.own HCS.out (by omega)) ((hr6.chg HCS.out (fun i hi he => by omega)).more (by omega)) (HRD6.out.chg HCS.out (fun i h1 h2 => by omega)) (by omega) HCM.out (by omega) (by omega) (by omega)).out
      rw [hy48] at h1
      exact h1
end Go.Proofs.Ytbgepefdfioljaa
