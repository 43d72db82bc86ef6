/- DrawSaveTable: a table and a number. -/
import Derived.Test.YtbgepefdfioljaaTr
namespace Go.Proofs.Ytbgepefdfioljaa
open Go.RowKit
abbrev lit8 : Array Value := #[.int .i64 0, .int .i64 0, .int .i64 0, .int .i64 0, .int .i64 0, .int .i64 1, .int .i64 2, .int .i64 3]
abbrev lit4 (k : Nat) : Array Value := #[.int .i64 k, .int .i64 1000000, .int .i64 1000001, .int .i64 (-1)]
def dsPost (g B : Nat) (u : Value) (i : Nat) : Value → World → Prop :=
  match i with
  | 0 => fun v _ => v = .agg #[u]
  | 1 | 5 => isPtr g
  | 2 => isNat 100
  | 3 => fun v w => ∃ b k, v = .slice (some ⟨b, 0, none⟩) 4 4 ∧ B ≤ b ∧ Blk w b 3 (lit4 k)
  | 4 => fun v w => ∃ b, v = .slice (some ⟨b, 0, none⟩) 8 8 ∧ B ≤ b ∧ Blk w b 3 lit8
  | 6 => isNat 8
  | 7 => fun v w => ∃ b k, v = .pointer (some ⟨b, k, none⟩) ∧ B ≤ b ∧ Blk w b 3 lit8 ∧ k < 8
  | 8 => isNat 4
  | 9 => fun v w => ∃ b j k, v = .pointer (some ⟨b, j, none⟩) ∧ B ≤ b ∧ Blk w b 3 (lit4 k) ∧ j < 4
  | 10 | 12 => isInt
  | _ => fun _ _ => True
theorem dsPost_stab {g H B i : Nat} {u v : Value} {w1 w2 : World} (hg : g < B) (hH : H < B) (h : dsPost g B u i v w1) (hc : Chg (fun k => k = g ∨ k = H) w1 w2) : dsPost g B u i v w2 := by
  unfold dsPost at *
  split at h
  all_goals first
    | exact h
    | (obtain ⟨b, k, h1, h2, h3⟩ := h; exact ⟨b, k, h1, h2, h3.chg hc (by omega)⟩)
    | (obtain ⟨b, h1, h2, h3⟩ := h; exact ⟨b, h1, h2, h3.chg hc (by omega)⟩)
    | (obtain ⟨b, k, h1, h2, h3, h4⟩ := h; exact ⟨b, k, h1, h2, h3.chg hc (by omega), h4⟩)
    | (obtain ⟨b, j, k, h1, h2, h3, h4⟩ := h; exact ⟨b, j, k, h1, h2, h3.chg hc (by omega), h4⟩)
def STDraw (w : World) (e : Ending) (w' : World) : Prop := ∃ v N, e = .returned (.tuple #[v, .int .i64 N]) ∧ TbV w.heap.size w' False v ∧ Chg NoB w w'
set_option maxRecDepth 100000 in
set_option maxHeartbeats 1000000 in
theorem DrawSaveTable_any (A0 : Option Addr) (c0 : Nat) (bs : List Nat) (w : World) (h : Rd (fun i => i < w.heap.size) w A0 (bs.map fun (b : Nat) => Value.int .u8 (b : Int))) (hx : ∀ b ∈ bs, b < 256) (hc : bs.length ≤ c0) :
    Calls Try.prog 33 #[.slice A0 bs.length c0] w (STDraw w) := by
  have hca := (Chg.refl NoB w).alloc (.cells #[.slice none 0 0] 39)
  have HH0 := Lib.hid (Blk.new w 39 #[.slice none 0 0])
  have HC0 := Lib.hid hca
  have HX0 := Lib.hid ((h.chg hca (fun _ _ x => x)).mono (fun i _ hi => by rw [World.size_alloc]; omega) : Rd (fun i => i < (w.alloc (.cells #[.slice none 0 0] 39)).heap.size) _ A0 _)
  clear hca
  go_enter Try.func33, Try.ntmps33
  go_wp2_with fail
  refine (l20Open_any A0 c0 bs _ HX0.out hx hc).mono ?_
  rintro e w1 ⟨g, rfl, hg, hc1, hr1⟩
  have hgH : w.heap.size < g := by rw [hg, World.size_alloc]; omega
  have HC1 := Lib.hid (HC0.out.trans hc1)
  have HH1 := Lib.hid (HH0.out.chg hc1 (fun x => x))
  have HR1 := Lib.hid hr1
  clear hg hc1 hr1
  go_wp2_with fail
  refine (l20Table_any g 0 9 _ HR1.out (by omega) (by omega) (by omega)).mono ?_
  rintro e w2 ⟨v, rfl, ⟨A, c, X, rfl, ht, hl8, hl6, -⟩, hc2, hr2⟩
  have hgV : g < w2.heap.size := hr2.lt
  have hC2 := hc2
  have HC2 := Lib.hid (show Chg NoB w w2 from HC1.out.own hc2 (by omega))
  have HH2 := Lib.hid (HH1.out.chg hc2 (by omega))
  have hca := (Chg.refl NoB w2).alloc (.cells #[.slice A X.length c] 39)
  have hbV := Blk.new w2 39 #[.slice A X.length c]
  have HC3 := Lib.hid (HC2.out.trans hca)
  have HT3 := Lib.hid (ht.new hca)
  have HR3 := Lib.hid (hr2.chg hca (fun _ _ x => x))
  have HH3 := Lib.hid (HH2.out.chg hca (fun x => x))
  have HV3 := Lib.hid hbV
  have HLX := Lib.hid (And.intro hl8 hl6)
  have HS1 := Lib.hid HH1.out.lt
  clear hC2 hc2 hr2 ht hca hbV hl8 hl6
  go_wp2_with fail
  obtain ⟨V, hV⟩ : ∃ V, w2.heap.size = V := ⟨_, rfl⟩
  rw [hV] at hgV HV3 ⊢
  obtain ⟨w3, hw3⟩ : ∃ w3, w2.alloc (.cells #[.slice A X.length c] 39) = w3 := ⟨_, rfl⟩
  rw [hw3] at HC3 HT3 HR3 HH3 HV3 ⊢
  clear hV hw3
  have v0 : w3.cell? ⟨V, 0, none⟩ = some (.slice A X.length c) := (HV3.out.cell _).trans rfl
  have hVl := HV3.out.lt
  have hr := HR3.out
  refine wp_region_rg (WInv := fun cc m w5 => Rdr w5 g (0 + 300 + cc) ∧ Chg (fun k => k = g ∨ k = w.heap.size) w3 w5 ∧ cc ≤ 13 ∧ StI w.heap.size 39 #[.slice none 0 0] 11 0 m w5) (R := Chg (fun k => k = g ∨ k = w.heap.size)) (Post := dsPost g w3.heap.size (.slice A X.length c)) (by kernel_rfl) (by kernel_rfl) ?_ (fun i v w1 w2 => dsPost_stab (by omega) (by omega)) ⟨hr.drew, (Chg.refl _ _).drew, by omega, .inl ⟨rfl, HH3.out.chg ((Chg.refl NoB w3).drew) (fun x => x)⟩⟩ ⟨?_, ?_, ?_, ?_, ?_, ?_, ?_, ?_, ?_, ?_, ?_, ?_, ?_, trivial⟩ ?_
  · rintro c c' m w ⟨h1, h2, _, h5⟩ h3 h4
    exact ⟨h1.more (by omega), h2, h4, h5⟩
  · rintro kc m a w5 hkc ⟨hrd, hch, hcc, hst⟩ hm hn
    have e1 : a.tmps[5]?.getD undef = .pointer (some ⟨V, 0, none⟩) := hn.1
    have x0 := hch.cell v0 (by simp only; omega)
    exact rg_val (v := .agg #[.slice A X.length c]) (by simp [execOp, go_sem, e1, x0]) rfl ⟨hrd.more (by omega), hch, hkc, hst.keep (by decide) hm (Chg.refl NoB _) (fun x => x)⟩ (Chg.refl _ _) rfl
  · rintro kc m a w5 hkc ⟨hrd, hch, hcc, hst⟩ hm hn
    have e1 : a.tmps[4]?.getD undef = .pointer (some ⟨g, 0, none⟩) := hn.1
    exact rg_val (v := .pointer (some ⟨g, 0, none⟩)) (by simp [execOp, go_sem, e1]) rfl ⟨hrd.more (by omega), hch, hkc, hst.keep (by decide) hm (Chg.refl NoB _) (fun x => x)⟩ (Chg.refl _ _) rfl
  · rintro kc m a w5 hkc ⟨hrd, hch, hcc, hst⟩ hm hn
    obtain ⟨⟨_, e1, _, rfl⟩, -⟩ := hn
    refine rg_call (f := 53) (args := #[.pointer (some ⟨g, 0, none⟩), .int .i64 100]) (by simp [go_sem, e1]) rfl ?_
    refine (pick_any g _ 100 _ hrd (by omega) (by omega) (by omega)).mono ?_
    rintro e' w6 ⟨kk, rfl, hkk, hc6, hr6⟩
    exact ⟨_, rfl, ⟨hr6, hch.trans (hc6.mono (fun _ _ x => .inl x)), hkc, hst.keep (by decide) hm hc6 (by omega)⟩, hc6.mono (fun _ _ x => .inl x), kk, rfl, by omega⟩
  · rintro kc m a w5 hkc ⟨hrd, hch, hcc, hst⟩ hm hn
    obtain ⟨⟨_, e1, _, k, rfl, hk⟩, -⟩ := hn
    have hca : Chg NoB w5 (w5.alloc (.cells (lit4 k) 3)) := (Chg.refl _ _).alloc _
    exact rg_val (v := .slice (some ⟨w5.heap.size, 0, none⟩) 4 4) (w' := w5.alloc (.cells (lit4 k) 3)) (by simp [execOp, go_sem, e1]) rfl ⟨(hrd.alloc _).more (by omega), hch.alloc _, hkc, hst.keep (by decide) hm hca (fun x => x)⟩ (hca.mono (fun _ _ x => x.elim)) ⟨_, k, rfl, hch.size, Blk.new _ _ _⟩
  · rintro kc m a w5 hkc ⟨hrd, hch, hcc, hst⟩ hm hn
    have hca : Chg NoB w5 (w5.alloc (.cells lit8 3)) := (Chg.refl _ _).alloc _
    exact rg_val (v := .slice (some ⟨w5.heap.size, 0, none⟩) 8 8) (w' := w5.alloc (.cells lit8 3)) (by simp [execOp, go_sem]) rfl ⟨(hrd.alloc _).more (by omega), hch.alloc _, hkc, hst.keep (by decide) hm hca (fun x => x)⟩ (hca.mono (fun _ _ x => x.elim)) ⟨_, rfl, hch.size, Blk.new _ _ _⟩
  · rintro kc m a w5 hkc ⟨hrd, hch, hcc, hst⟩ hm hn
    have e1 : a.tmps[4]?.getD undef = .pointer (some ⟨g, 0, none⟩) := hn.1
    exact rg_val (v := .pointer (some ⟨g, 0, none⟩)) (by simp [execOp, go_sem, e1]) rfl ⟨hrd.more (by omega), hch, hkc, hst.keep (by decide) hm (Chg.refl NoB _) (fun x => x)⟩ (Chg.refl _ _) rfl
  · rintro kc m a w5 hkc ⟨hrd, hch, hcc, hst⟩ hm hn
    obtain ⟨⟨_, e1, _, rfl⟩, -⟩ := hn
    refine rg_call (f := 53) (args := #[.pointer (some ⟨g, 0, none⟩), .int .i64 8]) (by simp [go_sem, e1]) rfl ?_
    refine (pick_any g _ 8 _ hrd (by omega) (by omega) (by omega)).mono ?_
    rintro e' w6 ⟨kk, rfl, hkk, hc6, hr6⟩
    exact ⟨_, rfl, ⟨hr6, hch.trans (hc6.mono (fun _ _ x => .inl x)), hkc, hst.keep (by decide) hm hc6 (by omega)⟩, hc6.mono (fun _ _ x => .inl x), kk, rfl, by omega⟩
  · rintro kc m a w5 hkc ⟨hrd, hch, hcc, hst⟩ hm hn
    obtain ⟨⟨_, e1, _, b, rfl, hb, hbl⟩, ⟨_, e2, _, k, rfl, hk2⟩, -⟩ := hn
    have hk3 : (k : Int) < 8 := by omega
    exact rg_val (v := .pointer (some ⟨b, k, none⟩)) (by simp [execOp, go_sem, e1, e2]; exact fun hh => absurd hh (by omega)) rfl ⟨hrd.more (by omega), hch, hkc, hst.keep (by decide) hm (Chg.refl NoB _) (fun x => x)⟩ (Chg.refl _ _) ⟨b, k, rfl, hb, hbl, hk2⟩
  · rintro kc m a w5 hkc ⟨hrd, hch, hcc, hst⟩ hm hn
    obtain ⟨⟨_, e1, _, b, k, rfl, hb, hbl, hk2⟩, -⟩ := hn
    obtain ⟨j, hj, hx⟩ : ∃ j : Nat, j < 4 ∧ w5.cell? ⟨b, k, none⟩ = some (.int .i64 (j : Int)) := by
      rw [hbl.cell]
      rcases (show k = 0 ∨ k = 1 ∨ k = 2 ∨ k = 3 ∨ k = 4 ∨ k = 5 ∨ k = 6 ∨ k = 7 by omega) with rfl | rfl | rfl | rfl | rfl | rfl | rfl | rfl
      all_goals first | exact ⟨0, by omega, rfl⟩ | exact ⟨1, by omega, rfl⟩ | exact ⟨2, by omega, rfl⟩ | exact ⟨3, by omega, rfl⟩
    exact rg_val (v := .int .i64 (j : Int)) (by simp [execOp, go_sem, e1, hx]) rfl ⟨hrd.more (by omega), hch, hkc, hst.keep (by decide) hm (Chg.refl NoB _) (fun x => x)⟩ (Chg.refl _ _) ⟨j, rfl, hj⟩
  · rintro kc m a w5 hkc ⟨hrd, hch, hcc, hst⟩ hm hn
    obtain ⟨⟨_, e1, _, b, k, rfl, hb, hbl⟩, ⟨_, e2, _, j, rfl, hj⟩, -⟩ := hn
    exact rg_val (v := .pointer (some ⟨b, j, none⟩)) (by simp [execOp, go_sem, e1, e2]; exact fun hh => absurd hh (by omega)) rfl ⟨hrd.more (by omega), hch, hkc, hst.keep (by decide) hm (Chg.refl NoB _) (fun x => x)⟩ (Chg.refl _ _) ⟨b, j, k, rfl, hb, hbl, hj⟩
  · rintro kc m a w5 hkc ⟨hrd, hch, hcc, hst⟩ hm hn
    obtain ⟨⟨_, e1, _, b, j, k, rfl, hb, hbl, hj⟩, -⟩ := hn
    obtain ⟨x, hx⟩ := lit_cell hbl j (by simpa using hj) (fun v hv => by simp at hv; rcases hv with rfl | rfl | rfl | rfl <;> exact ⟨_, rfl⟩)
    exact rg_val (v := .int .i64 x) (by simp [execOp, go_sem, e1, hx]) rfl ⟨hrd.more (by omega), hch, hkc, hst.keep (by decide) hm (Chg.refl NoB _) (fun x => x)⟩ (Chg.refl _ _) ⟨x, rfl⟩
  · rintro kc m a w5 hkc ⟨hrd, hch, hcc, hst⟩ hm hn
    obtain ⟨e1, ⟨_, e2, hmv, rfl⟩, -⟩ := hn
    have e1' : a.tmps[2]?.getD undef = .pointer (some ⟨w.heap.size, 0, none⟩) := e1
    have hb := hst.ready hm
    have f0 := hb.frozen 0
    have x0 : w5.cell? ⟨w.heap.size, 0, none⟩ = some (.slice none 0 0) := (hb.cell _).trans rfl
    have hcs : Chg (· = w.heap.size) w5 (w5.setCell ⟨w.heap.size, 0, none⟩ (.slice A X.length c)) := (Chg.refl (· = w.heap.size) w5).setCell (p := ⟨w.heap.size, 0, none⟩) (.inl rfl) _
    exact rg_skip (w' := w5.setCell ⟨w.heap.size, 0, none⟩ (.slice A X.length c)) (by simp [execOp, go_sem, e1', e2, x0, f0]) rfl ⟨(hrd.chgBox hcs (by omega) hb (by simp)).more (by omega), hch.trans (hcs.mono (fun _ _ x => .inr x)), hkc, StI.store (by decide) hmv (hb.set_ 0 _)⟩ (hcs.mono (fun _ _ x => .inr x)) trivial
  · rintro kc m a w5 hkc ⟨hrd, hch, hcc, hst⟩ hm hn
    obtain ⟨⟨_, e1, _, x, rfl⟩, -⟩ := hn
    exact rg_val (v := .int .i64 x) (by simp [execOp, go_sem, e1]) rfl ⟨hrd.more (by omega), hch, hkc, hst.keep (by decide) hm (Chg.refl NoB _) (fun x => x)⟩ (Chg.refl _ _) ⟨x, rfl⟩
  rintro m w5 ⟨hrd, hch, -, hst⟩
  simp only [AllVals]
  rintro q0 m0 p0 q1 m1 p1 q2 m2 p2 q3 m3 p3 q4 m4 p4 q5 m5 p5 q6 m6 p6 q7 m7 p7 q8 m8 p8 q9 m9 p9 q10 m10 p10 q11 m11 p11 q12 m12 p12
  obtain rfl := p0
  obtain ⟨x, rfl⟩ := p12
  have hb := hst.done m11 m0
  have r5 : w5.cell? ⟨w.heap.size, 0, none⟩ = some (.slice A X.length c) := (hb.cell _).trans rfl
  have HCH := Lib.hid hch
  clear p1 p2 p3 p4 p5 p6 p7 p8 p9 p10 p11 hst hb hrd hch v0
  simp only [Act.put, List.setIfInBounds_toArray, List.set_cons_succ, List.set_cons_zero]
  go_wp2_with fail
  (try simp only [Exit.inBlock, Exit.then])
  refine bodyPost_ret (v := .tuple #[.agg #[.slice A X.length c], .int .i64 x]) (by simp [results, Try.results33, go_sem, *]) rfl ?_
  exact ⟨_, x, rfl, ⟨A, c, X, rfl, (HT3.out.chg HCH.out (fun i h1 h2 => by have := HS1.out; have := HR1.out.lt; omega)).mono (fun i _ h => by have := HS1.out; omega), HLX.out.1, HLX.out.2, fun hh => hh.elim⟩, HC3.out.trans' HCH.out (fun i hi => .inr (by omega))⟩
end Go.Proofs.Ytbgepefdfioljaa
