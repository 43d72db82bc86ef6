/- LoadTable of the reference. -/
import Derived.Test.YtbgepefdfioljaaTl
import Derived.Test.YtbgepefdfioljaaRn
namespace Go.Proofs.Ytbgepefdfioljaa
open Go.RowKit
theorem RowsO.chgT {F : Nat → Prop} {w w' : World} {B E : Nat} {T : List RowO} (h : RowsO B E w T) (hc : Chg F w w') (hF : ∀ k cs, Blk w k 3 cs → ¬ F k) : RowsO B E w' T :=
  ⟨fun r hr => (h.1 r hr).chg hc (hF _ _ (h.1 r hr).2.2.1), h.2⟩
theorem own_row_ok {w : World} {B : Nat} {v : Value} {n : Nat} {xs : List Int} (h : w.ownsRow B 3 1 v n (icells xs)) (hl : xs.length = n) (hn : 0 < n) : ∃ g c rest, v = RowO.cell ⟨g, c, xs, rest⟩ ∧ RowO.ok B w.heap.size w ⟨g, c, xs, rest⟩ := by
  obtain ⟨A, c, rfl, hnc, h0 | ⟨g, rest, rfl, hg, hE, hb⟩⟩ := OwnS.of_row h
  · omega
  · exact ⟨g, c, rest, by simp [RowO.cell, hl], hg, hE, hb, by simp only [hl]; exact hnc⟩
def sl1Post (B0 : Nat) (n s q : Int) (A : Option Addr) (c len : Nat) (full : Bool) (i : Nat) : Value → World → Prop :=
  match full with
  | true => (match i with
    | 0 | 7 => fun v _ => v = .pointer (some ⟨B0, 1, none⟩)
    | 1 | 8 => fun v _ => v = .slice A 48 c
    | 2 => fun v _ => v = .int .i64 48
    | 3 | 4 => fun v _ => v = .bool false
    | 5 => fun v _ => v = .pointer (some ⟨B0, 0, none⟩)
    | 6 => fun v _ => v = .int .i64 n
    | 9 => fun v _ => v = .int .i64 q
    | 10 => fun v _ => v = .pointer (some ⟨B0, 2, none⟩)
    | 11 => fun v _ => v = .int .i64 s
    | _ => fun v _ => v = .bool (q != s))
  | false => (match i with
    | 0 => fun v _ => v = .pointer (some ⟨B0, 1, none⟩)
    | 1 => fun v _ => v = .slice A len c
    | 2 => fun v _ => v = .int .i64 len
    | 3 | 4 | 13 => fun v _ => v = .bool true
    | _ => fun _ _ => True)
theorem sl1Post_stab {B0 : Nat} {n s q : Int} {A : Option Addr} {c len : Nat} {full : Bool} {i : Nat} {v : Value} {w1 w2 : World} (h : sl1Post B0 n s q A c len full i v w1) : sl1Post B0 n s q A c len full i v w2 := by
  cases full
  · unfold sl1Post at *
    simp only at *
    split at h <;> exact h
  · unfold sl1Post at *
    simp only at *
    split at h <;> exact h
def smPost (V B0 B : Nat) (u : Value) (ad : Addr) (c f p r : Nat) (ch : List Int) (i : Nat) : Value → World → Prop :=
  match i with
  | 0 | 14 => fun v _ => v = .pointer (some ⟨V, 0, none⟩)
  | 1 => fun v _ => v = u
  | 2 => fun v w => ∃ g, v = .slice (some ⟨g, 0, none⟩) 0 0 ∧ B ≤ g ∧ Blk w g 3 #[]
  | 3 => fun v _ => v = .pointer (some ⟨B0, 1, none⟩)
  | 4 => fun v _ => v = .slice (some ad) 48 c
  | 5 | 7 => fun v _ => v = .int .i64 f
  | 6 => fun v _ => v = .int .i64 (p : Int)
  | 8 => fun v _ => v = .int .i64 ((f : Int) + 1)
  | 9 => fun v _ => v = .int .i64 (r : Int)
  | 10 => fun v _ => v = .slice (some (ad.add p)) 6 (c - p)
  | 11 => fun v w => w.ownsRow B 3 1 v 6 (icells ch)
  | _ => fun _ _ => True
theorem smPost_stab {V B0 B : Nat} {u : Value} {ad : Addr} {c f p r : Nat} {ch : List Int} {i : Nat} {v : Value} {w1 w2 : World} (h : smPost V B0 B u ad c f p r ch i v w1) (hc : Chg (fun k => k < B) w1 w2) : smPost V B0 B u ad c f p r ch i v w2 := by
  unfold smPost at *
  split at h
  all_goals first
    | exact h
    | (obtain ⟨g, h1, h2, h3⟩ := h; exact ⟨g, h1, h2, h3.chg hc (by omega)⟩)
    | exact own_chg1 h hc (fun g _ hg _ hk => by omega)
theorem ty_tab : (3 : Nat) ≠ 39 := by decide
theorem lists_ne : (22 : Nat) ≠ 39 := by decide
set_option maxRecDepth 100000 in
set_option maxHeartbeats 4000000 in
theorem sLoadTable_any (F : Nat → Prop) (n s : Int) (A : Option Addr) (c : Nat) (xs : List Int) (w : World) (h : Rd F w A (icells xs)) (hc : xs.length ≤ c) (hm : c ≤ 9223372036854775807) :
    Calls Try.prog 29 #[.agg #[.int .i64 n, .slice A xs.length c, .int .i64 s]] w (LoadP w n xs s) := by
  obtain ⟨i0, hi, hz0, hz1, hz2⟩ := info_parts info_int
  obtain ⟨j0, hj, hy0, hy1, hy2⟩ := info_parts info_ints'
  obtain ⟨hb1, hb2, hcb⟩ := lit2 w 37 39 #[.int .i64 n, .slice A xs.length c, .int .i64 s] #[.slice none 0 0]
  have HB1 := Lib.hid hb1
  have HB2 := Lib.hid hb2
  have HC0 := Lib.hid hcb
  have HNO : ¬ loadArgs n xs s → ∀ wq, Chg NoB w wq → Hid (LoadP w n xs s (.returned (.tuple #[.agg #[.slice none 0 0], .bool false])) wq) := fun ha wq hq => Lib.hid ⟨none, 0, [], false, rfl, TabO.nil _ _ _ _ _, Lib.hid ⟨fun hh => absurd hh ha, fun _ => ⟨rfl, rfl⟩⟩, hq⟩
  have HCS0 := Lib.hid (show ∀ wq u, Chg NoB w wq → Chg NoB w (wq.setCell ⟨w.heap.size + 1, 0, none⟩ u) from fun wq u hq => hq.own ((Chg.refl (· = w.heap.size + 1) wq).setCell (p := ⟨w.heap.size + 1, 0, none⟩) (.inl rfl) _) (Nat.le_succ _))
  have z0 := (hb1.cell 0).trans (show _ = some (Value.int .i64 n) from rfl)
  have z1 := (hb1.cell 1).trans (show _ = some (Value.slice A xs.length c) from rfl)
  have z2 := (hb1.cell 2).trans (show _ = some (Value.int .i64 s) from rfl)
  have HRD := Lib.hid (h.lt.new hcb)
  clear hb1 hb2 hcb
  go_enter Try.func29, Try.ntmps29
  go_wp2_with fail
  obtain ⟨wb, hwb⟩ : ∃ wb, (w.alloc (.cells #[.int .i64 n, .slice A xs.length c, .int .i64 s] 37)).alloc (.cells #[.slice none 0 0] 39) = wb := ⟨_, rfl⟩
  rw [hwb] at HB1 HB2 HC0 HRD z0 z1 z2 ⊢
  clear hwb
  by_cases h48 : xs.length = 48
  case neg =>
    have H48 := Lib.hid h48
    refine wp_region_rgg [(4, true)] (WInv := fun _ _ w4 => Chg NoB wb w4) (R := Chg NoB) (Post := sl1Post w.heap.size n s 0 A c xs.length false) (by kernel_rfl) (by kernel_rfl) (fun p hp v w h => by simp at hp; subst hp; exact h) (fun _ _ _ _ h _ _ => h) (fun i v w1 w2 h _ => sl1Post_stab h) ((Chg.refl _ _).drew) ⟨?_, ?_, ?_, ?_, ?_, ?_, ?_, ?_, ?_, ?_, ?_, ?_, ?_, ?_, trivial⟩ ?_
    · rintro c1 m a w4 hc1 hch4 hm hn
      have e1 : a.tmps[1]?.getD undef = .pointer (some ⟨w.heap.size, 0, none⟩) := hn.1
      exact rg_val (v := .pointer (some ⟨w.heap.size, 1, none⟩)) (by simp [execOp, go_sem, e1]) rfl hch4 (Chg.refl _ _) rfl
    · rintro c1 m a w4 hc1 hch4 hm hn
      obtain ⟨⟨_, e1, _, rfl⟩, -⟩ := hn
      have hz := hch4.cell z1 (fun x => x)
      exact rg_val (v := .slice A xs.length c) (by simp [execOp, go_sem, e1, hz]) rfl hch4 (Chg.refl _ _) rfl
    · rintro c1 m a w4 hc1 hch4 hm hn
      obtain ⟨⟨_, e1, _, rfl⟩, -⟩ := hn
      exact rg_val (v := .int .i64 xs.length) (by simp [go_sem, e1]) rfl hch4 (Chg.refl _ _) rfl
    · rintro c1 m a w4 hc1 hch4 hm hn
      obtain ⟨⟨_, e1, _, rfl⟩, -⟩ := hn
      exact rg_val (v := .bool true) (by simp [execOp, go_sem, e1]; omega) rfl hch4 (Chg.refl _ _) rfl
    · rintro c1 m a w4 hc1 hch4 hm hn
      obtain ⟨⟨_, e1, _, rfl⟩, -⟩ := hn
      exact rg_val (v := .bool true) (by simp [execOp, go_sem, e1]) rfl hch4 (Chg.refl _ _) rfl
    · exact fun _ _ _ _ h _ => ⟨h, Chg.refl _ _, trivial⟩
    · exact fun _ _ _ _ h _ => ⟨h, Chg.refl _ _, trivial⟩
    · exact fun _ _ _ _ h _ => ⟨h, Chg.refl _ _, trivial⟩
    · exact fun _ _ _ _ h _ => ⟨h, Chg.refl _ _, trivial⟩
    · exact fun _ _ _ _ h _ => ⟨h, Chg.refl _ _, trivial⟩
    · exact fun _ _ _ _ h _ => ⟨h, Chg.refl _ _, trivial⟩
    · exact fun _ _ _ _ h _ => ⟨h, Chg.refl _ _, trivial⟩
    · exact fun _ _ _ _ h _ => ⟨h, Chg.refl _ _, trivial⟩
    · rintro c1 m a w4 hc1 hch4 hm hn
      obtain ⟨⟨_, e1, _, rfl⟩, _, -⟩ := hn
      exact rg_val (v := .bool true) (by simp [execOp, go_sem, e1]) rfl hch4 (Chg.refl _ _) rfl
    rintro m w4 hch4
    simp only [AllVals]
    rintro rv0 - p0 rv1 - p1 rv2 - p2 rv3 - p3 rv4 - p4 rv5 - p5 rv6 - p6 rv7 - p7 rv8 - p8 rv9 - p9 rv10 - p10 rv11 - p11 rv12 - p12 rv13 - p13
    obtain rfl := p13
    clear p0 p1 p2 p3 p4 p5 p6 p7 p8 p9 p10 p11 p12
    simp only [Act.put, List.setIfInBounds_toArray, List.set_cons_succ, List.set_cons_zero]
    have hr4 := HB2.out.chg hch4 (fun x => x)
    have r0 : w4.cell? ⟨w.heap.size + 1, 0, none⟩ = some (.slice none 0 0) := (hr4.cell _).trans rfl
    have rf := hr4.frozen 0
    clear hr4 z0 z1 z2 h48
    go_wp2_with fail
    (try simp only [Exit.inBlock, Exit.then])
    refine bodyPost_ret (v := .tuple #[.agg #[.slice none 0 0], .bool false]) (by simp [results, Try.results29, go_sem, *]) rfl ?_
    exact (HNO (fun hh => H48.out hh.1) _ (HCS0.out _ _ (HC0.out.trans hch4))).out
  have H48 := Lib.hid h48
  obtain ⟨ad, hA0⟩ : ∃ ad, A = some ad := by
    obtain ⟨ad, e, _⟩ := h.at_ (k := 0) (by rw [icells_length, h48]; omega)
    exact ⟨ad, e⟩
  rw [h48] at HB1 z1 ⊢
  have hc48 : 48 ≤ c := by omega
  obtain ⟨q, hq⟩ : ∃ q, saveSum n xs = q := ⟨_, rfl⟩
  have HQ := Lib.hid hq
  clear h48 hq
  refine wp_region_rgg [(4, false)] (WInv := fun _ _ w4 => Chg NoB wb w4) (R := Chg NoB) (Post := sl1Post w.heap.size n s q A c 48 true) (by kernel_rfl) (by kernel_rfl) (fun p hp v w h => by simp at hp; subst hp; exact h) (fun _ _ _ _ h _ _ => h) (fun i v w1 w2 h _ => sl1Post_stab h) ((Chg.refl _ _).drew) ⟨?_, ?_, ?_, ?_, ?_, ?_, ?_, ?_, ?_, ?_, ?_, ?_, ?_, ?_, trivial⟩ ?_
  · rintro c1 m a w4 hc1 hch4 hm hn
    have e1 : a.tmps[1]?.getD undef = .pointer (some ⟨w.heap.size, 0, none⟩) := hn.1
    exact rg_val (v := .pointer (some ⟨w.heap.size, 1, none⟩)) (by simp [execOp, go_sem, e1]) rfl hch4 (Chg.refl _ _) rfl
  · rintro c1 m a w4 hc1 hch4 hm hn
    obtain ⟨⟨_, e1, _, rfl⟩, -⟩ := hn
    have hz := hch4.cell z1 (fun x => x)
    exact rg_val (v := .slice A 48 c) (by simp [execOp, go_sem, e1, hz]) rfl hch4 (Chg.refl _ _) rfl
  · rintro c1 m a w4 hc1 hch4 hm hn
    obtain ⟨⟨_, e1, _, rfl⟩, -⟩ := hn
    exact rg_val (v := .int .i64 48) (by simp [go_sem, e1]) rfl hch4 (Chg.refl _ _) rfl
  · rintro c1 m a w4 hc1 hch4 hm hn
    obtain ⟨⟨_, e1, _, rfl⟩, -⟩ := hn
    exact rg_val (v := .bool false) (by simp [go_sem, e1]) rfl hch4 (Chg.refl _ _) rfl
  · rintro c1 m a w4 hc1 hch4 hm hn
    obtain ⟨⟨_, e1, _, rfl⟩, -⟩ := hn
    exact rg_val (v := .bool false) (by simp [execOp, go_sem, e1]) rfl hch4 (Chg.refl _ _) rfl
  · rintro c1 m a w4 hc1 hch4 hm hn
    have e1 : a.tmps[1]?.getD undef = .pointer (some ⟨w.heap.size, 0, none⟩) := hn.1
    exact rg_val (v := .pointer (some ⟨w.heap.size, 0, none⟩)) (by simp [execOp, go_sem, e1]) rfl hch4 (Chg.refl _ _) rfl
  · rintro c1 m a w4 hc1 hch4 hm hn
    obtain ⟨⟨_, e1, _, rfl⟩, -⟩ := hn
    have hz := hch4.cell z0 (fun x => x)
    exact rg_val (v := .int .i64 n) (by simp [execOp, go_sem, e1, hz]) rfl hch4 (Chg.refl _ _) rfl
  · rintro c1 m a w4 hc1 hch4 hm hn
    have e1 : a.tmps[1]?.getD undef = .pointer (some ⟨w.heap.size, 0, none⟩) := hn.1
    exact rg_val (v := .pointer (some ⟨w.heap.size, 1, none⟩)) (by simp [execOp, go_sem, e1]) rfl hch4 (Chg.refl _ _) rfl
  · rintro c1 m a w4 hc1 hch4 hm hn
    obtain ⟨⟨_, e1, _, rfl⟩, -⟩ := hn
    have hz := hch4.cell z1 (fun x => x)
    exact rg_val (v := .slice A 48 c) (by simp [execOp, go_sem, e1, hz]) rfl hch4 (Chg.refl _ _) rfl
  · rintro c1 m a w4 hc1 hch4 hm hn
    obtain ⟨⟨_, e1, _, rfl⟩, ⟨_, e2, _, rfl⟩, -⟩ := hn
    refine rg_call (f := 13) (args := #[.int .i64 n, .slice A 48 c]) (by simp [go_sem, e1, e2]) rfl ?_
    have hcv := sSaveSum_any _ A c n xs w4 (HRD.out.new hch4)
    rw [H48.out] at hcv
    refine hcv.mono ?_
    rintro e w5 ⟨q', rfl, hq', rfl⟩
    exact ⟨_, rfl, hch4, Chg.refl _ _, by rw [hq'.out, HQ.out]; rfl⟩
  · rintro c1 m a w4 hc1 hch4 hm hn
    have e1 : a.tmps[1]?.getD undef = .pointer (some ⟨w.heap.size, 0, none⟩) := hn.1
    exact rg_val (v := .pointer (some ⟨w.heap.size, 2, none⟩)) (by simp [execOp, go_sem, e1]) rfl hch4 (Chg.refl _ _) rfl
  · rintro c1 m a w4 hc1 hch4 hm hn
    obtain ⟨⟨_, e1, _, rfl⟩, -⟩ := hn
    have hz := hch4.cell z2 (fun x => x)
    exact rg_val (v := .int .i64 s) (by simp [execOp, go_sem, e1, hz]) rfl hch4 (Chg.refl _ _) rfl
  · rintro c1 m a w4 hc1 hch4 hm hn
    obtain ⟨⟨_, e1, _, rfl⟩, ⟨_, e2, _, rfl⟩, -⟩ := hn
    exact rg_val (v := .bool (q != s)) (by simp [go_sem, e1, e2]) rfl hch4 (Chg.refl _ _) rfl
  · rintro c1 m a w4 hc1 hch4 hm hn
    obtain ⟨⟨_, e1, _, rfl⟩, ⟨_, e2, _, rfl⟩, -⟩ := hn
    exact rg_val (v := .bool (q != s)) (by simp [execOp, go_sem, e1, e2]) rfl hch4 (Chg.refl _ _) rfl
  rintro m w4 hch4
  simp only [AllVals]
  rintro rv0 - p0 rv1 - p1 rv2 - p2 rv3 - p3 rv4 - p4 rv5 - p5 rv6 - p6 rv7 - p7 rv8 - p8 rv9 - p9 rv10 - p10 rv11 - p11 rv12 - p12 rv13 - p13
  obtain rfl := p13
  clear p0 p1 p2 p3 p4 p5 p6 p7 p8 p9 p10 p11 p12
  simp only [Act.put, List.setIfInBounds_toArray, List.set_cons_succ, List.set_cons_zero]
  have hr4 := HB2.out.chg hch4 (fun x => x)
  have r0 : w4.cell? ⟨w.heap.size + 1, 0, none⟩ = some (.slice none 0 0) := (hr4.cell _).trans rfl
  have rf := hr4.frozen 0
  by_cases hqs : q = s
  case neg =>
    have hqs' : (q != s) = true := by rw [bne_iff_ne]; exact hqs
    have HQS := Lib.hid hqs
    clear hqs hr4 z0 z1 z2
    go_wp2_with fail
    (try simp only [Exit.inBlock, Exit.then])
    refine bodyPost_ret (v := .tuple #[.agg #[.slice none 0 0], .bool false]) (by simp [results, Try.results29, go_sem, *]) rfl ?_
    exact (HNO (fun hh => HQS.out (by rw [← HQ.out]; exact hh.2.2.2.2)) _ (HCS0.out _ _ (HC0.out.trans hch4))).out
  have hqs' : (q != s) = false := by rw [bne_eq_false_iff_eq]; exact hqs
  simp only [hqs']
  have HQS := Lib.hid hqs
  have z0 := hch4.cell z0 (fun x => x)
  have z1 := hch4.cell z1 (fun x => x)
  have z2 := hch4.cell z2 (fun x => x)
  have HC4 := Lib.hid (HC0.out.trans hch4)
  have HR4 := Lib.hid hr4
  have HS4 := Lib.hid (HB1.out.chg hch4 (fun x => x))
  have HRD4 := Lib.hid (HRD.out.new hch4)
  clear hqs hr4 hch4 z0 z1 z2
  have HV0 := Lib.hid (Blk.new w4 39 #[.slice none 0 0])
  have hca4 := (Chg.refl NoB w4).alloc (.cells #[.slice none 0 0] 39)
  have HC5 := Lib.hid (HC4.out.trans hca4)
  have HR5 := Lib.hid (HR4.out.chg hca4 (fun x => x))
  have HS5 := Lib.hid (HS4.out.chg hca4 (fun x => x))
  have HRD5 := Lib.hid (HRD4.out.new hca4)
  have hV1 : w.heap.size + 1 < w4.heap.size := HR4.out.lt
  clear hca4
  go_wp2
  obtain ⟨V, hV⟩ : ∃ V, w4.heap.size = V := ⟨_, rfl⟩
  rw [hV] at hV1 HV0 ⊢
  have hVs : (w4.alloc (.cells #[.slice none 0 0] 39)).heap.size = V + 1 := by rw [World.size_alloc, hV]
  clear hV HC4 HR4 HS4 HRD4 HRD
  go_loopw [5] (fun i wr => ∃ (f : Nat) (u : Value) (T : List RowO), f ≤ 8 ∧ i = .int .i64 f ∧ Chg NoB w wr ∧ Blk wr w.heap.size 37 #[.int .i64 n, .slice A 48 c, .int .i64 s] ∧ Blk wr (w.heap.size + 1) 39 #[.slice none 0 0] ∧ Blk wr V 39 #[u] ∧ wr.ownsRow (V + 1) 22 1 u f (T.map RowO.cell) ∧ RowsO (V + 1) wr.heap.size wr T ∧ Hid (listsOf T = (chunks xs).take f) ∧ V < wr.heap.size) (fun i _ => 8 - (intOf i).toNat)
  case atStart => exact ⟨0, .slice none 0 0, [], Nat.zero_le _, rfl, HC5.out, HS5.out, HR5.out, HV0.out, World.ownsRow_nil _ _ _ _, RowsO.nil _ _ _, Lib.hid rfl, by rw [hVs]; omega⟩
  case round =>
    obtain ⟨wo, rfl⟩ : ∃ wo, wo = wr := ⟨_, rfl⟩
    obtain ⟨f, u, T, hf8, rfl, hch, hbs, hbr, hbv, hou, hrows, hT, hVB⟩ := hrel
    have hTl : T.length = f := by have := congrArg List.length hT.out; rw [listsOf_length, List.length_take, chunks_len] at this; omega
    have HC := Lib.hid hch
    have HS := Lib.hid hbs
    have HR := Lib.hid hbr
    have HVV := Lib.hid hbv
    have HOU := Lib.hid hou
    have HRW := Lib.hid hrows
    have s1 : wo.cell? ⟨w.heap.size, 1, none⟩ = some (.slice A 48 c) := (hbs.cell _).trans rfl
    by_cases hlt : f < 8
    · subst hA0
      have HF1 := Lib.hid (show ¬ ((⟨w.heap.size, 1, none⟩ : Addr).block = V ∨ some (⟨w.heap.size, 1, none⟩ : Addr).block = u.ownBlock) from fun hh => by
        rcases hh with h1 | h1
        · simp only at h1; omega
        · have := (hou.lt _ h1.symm).1; simp only at this; omega)
      have HU := Lib.hid (show ∀ k, some k = u.ownBlock → k < wo.heap.size from fun k hk => (hou.lt _ hk.symm).2)
      have hsrc : Rd (fun i => F i ∧ i < w.heap.size) wo (some (ad.add (f * 6))) (icells (chunk xs f)) := by
        rw [Nat.mul_comm f 6]
        have h1 := rd_front (rd_drop (h.lt.new hch) (6 * f)) 6
        unfold chunk icells
        unfold icells at h1
        rw [List.map_take, List.map_drop]
        exact h1
      have HF2 := Lib.hid (show ∀ k, (F k ∧ k < w.heap.size) → ¬ (k = V ∨ some k = u.ownBlock) from fun k hk hh => by
        rcases hh with h1 | h1
        · omega
        · have := (hou.lt _ h1.symm).1; omega)
      have hchl := Lib.hid (show (icells (chunk xs f)).length = 6 * 1 by rw [icells_length, chunk_len H48.out hlt])
      obtain ⟨p, hp⟩ : ∃ p, f * 6 = p := ⟨_, rfl⟩
      obtain ⟨r, hr⟩ : ∃ r, p + 6 = r := ⟨_, rfl⟩
      rw [hp] at hsrc
      have HSRC := Lib.hid hsrc
      have HP := Lib.hid hp
      have HR6 := Lib.hid hr
      have t0 : r ≤ 48 := by omega
      have t1 : (p : Int) ≤ max (r : Int) 0 := by omega
      have t2 : (r : Int) ≤ (c : Int) := by omega
      have t3 : ¬ c = p := by omega
      have t4 : r - p = 6 := by omega
      have t5 : ((f : Int) * 6) = (p : Int) := by omega
      have t6 : (((f : Int) + 1) * 6) = (r : Int) := by omega
      have TT := Lib.hid (show r ≤ 48 ∧ (p : Int) ≤ max (r : Int) 0 ∧ (r : Int) ≤ (c : Int) ∧ ¬ c = p ∧ r - p = 6 ∧ ((f : Int) * 6) = (p : Int) ∧ (((f : Int) + 1) * 6) = (r : Int) from ⟨t0, t1, t2, t3, t4, t5, t6⟩)
      clear hp hr t0 t1 t2 t3 t4 t5 t6
      clear hch hbs hbr hbv hou hrows hsrc
      go_wp2_with fail
      refine wp_region_rg (WInv := fun _ m w5 => NestI w wo 39 22 V (V + 1) wo.heap.size u f (T.map RowO.cell) 1 11 12 13 15 m w5) (R := Chg (fun k => k < wo.heap.size)) (Post := smPost V w.heap.size wo.heap.size u ad c f p r (chunk xs f)) (by kernel_rfl) (by kernel_rfl) (fun _ _ _ _ h _ _ => h) (fun i v w1 w2 h hc => smPost_stab h hc) (NestI.start (HC.out.drew) ((Chg.refl _ _).drew) (own_chg1 HOU.out ((Chg.refl NoB wo).drew) (fun _ _ _ _ x => x)) (HVV.out.chg ((Chg.refl NoB wo).drew) (fun x => x))) ?_ ?_
      · refine ⟨?_, ?_, ?_, ?_, ?_, ?_, ?_, ?_, ?_, ?_, ?_, ?_, ?_, ?_, ?_, ?_, trivial⟩
        · rintro c1 m a w5 hc1 hN hm hn
          have e1 : a.tmps[4]?.getD undef = .pointer (some ⟨V, 0, none⟩) := hn.1
          exact rg_val (v := .pointer (some ⟨V, 0, none⟩)) (by simp [execOp, go_sem, e1]) rfl (hN.keep hm (by decide) (by decide) (by decide) (Chg.refl _ _)) (Chg.refl _ _) rfl
        · rintro c1 m a w5 hc1 hN hm hn
          obtain ⟨⟨_, e1, _, rfl⟩, -⟩ := hn
          have hz : w5.cell? ⟨V, 0, none⟩ = some u := ((hN.load hm).cell _).trans rfl
          exact rg_val (v := u) (by simp [execOp, go_sem, e1, hz]) rfl (hN.keep hm (by decide) (by decide) (by decide) (Chg.refl _ _)) (Chg.refl _ _) rfl
        · rintro c1 m a w5 hc1 hN hm hn
          have hca : Chg NoB w5 (w5.alloc (.cells #[] 3)) := (Chg.refl _ _).alloc _
          exact rg_val (v := .slice (some ⟨w5.heap.size, 0, none⟩) 0 0) (w' := w5.alloc (.cells #[] 3)) (by simp [execOp, go_sem]) rfl (hN.keep hm (by decide) (by decide) (by decide) hca) (hca.mono (fun _ _ x => x.elim)) ⟨_, rfl, hN.chg.size, Blk.new _ _ _⟩
        · rintro c1 m a w5 hc1 hN hm hn
          have e1 : a.tmps[1]?.getD undef = .pointer (some ⟨w.heap.size, 0, none⟩) := hn.1
          exact rg_val (v := .pointer (some ⟨w.heap.size, 1, none⟩)) (by simp [execOp, go_sem, e1]) rfl (hN.keep hm (by decide) (by decide) (by decide) (Chg.refl _ _)) (Chg.refl _ _) rfl
        · rintro c1 m a w5 hc1 hN hm hn
          obtain ⟨⟨_, e1, _, rfl⟩, -⟩ := hn
          have hz := hN.chg.cell s1 HF1.out
          exact rg_val (v := .slice (some ad) 48 c) (by simp [execOp, go_sem, e1, hz]) rfl (hN.keep hm (by decide) (by decide) (by decide) (Chg.refl _ _)) (Chg.refl _ _) rfl
        · rintro c1 m a w5 hc1 hN hm hn
          have e1 : a.tmps[5]?.getD undef = .int .i64 (f : Int) := hn.1
          exact rg_val (v := .int .i64 (f : Int)) (by simp [execOp, go_sem, e1]) rfl (hN.keep hm (by decide) (by decide) (by decide) (Chg.refl _ _)) (Chg.refl _ _) rfl
        · rintro c1 m a w5 hc1 hN hm hn
          obtain ⟨⟨_, e1, _, rfl⟩, -⟩ := hn
          have t5 := TT.out.2.2.2.2.2.1
          exact rg_val (v := .int .i64 (p : Int)) (by simp [execOp, go_sem, e1, t5]; rw [IntKind.wrap_i64]; omega) rfl (hN.keep hm (by decide) (by decide) (by decide) (Chg.refl _ _)) (Chg.refl _ _) rfl
        · rintro c1 m a w5 hc1 hN hm hn
          have e1 : a.tmps[5]?.getD undef = .int .i64 (f : Int) := hn.1
          exact rg_val (v := .int .i64 (f : Int)) (by simp [execOp, go_sem, e1]) rfl (hN.keep hm (by decide) (by decide) (by decide) (Chg.refl _ _)) (Chg.refl _ _) rfl
        · rintro c1 m a w5 hc1 hN hm hn
          obtain ⟨⟨_, e1, _, rfl⟩, -⟩ := hn
          exact rg_val (v := .int .i64 ((f : Int) + 1)) (by simp [execOp, go_sem, e1]; rw [IntKind.wrap_i64]; omega) rfl (hN.keep hm (by decide) (by decide) (by decide) (Chg.refl _ _)) (Chg.refl _ _) rfl
        · rintro c1 m a w5 hc1 hN hm hn
          obtain ⟨⟨_, e1, _, rfl⟩, -⟩ := hn
          have t0 := TT.out.1
          have t6 := TT.out.2.2.2.2.2.2
          exact rg_val (v := .int .i64 (r : Int)) (by simp [execOp, go_sem, e1, t6]; rw [IntKind.wrap_i64]; omega) rfl (hN.keep hm (by decide) (by decide) (by decide) (Chg.refl _ _)) (Chg.refl _ _) rfl
        · rintro c1 m a w5 hc1 hN hm hn
          obtain ⟨⟨_, e1, _, rfl⟩, ⟨_, e2, _, rfl⟩, ⟨_, e3, _, rfl⟩, -⟩ := hn
          obtain ⟨t0, -, t2, t3, t4, -, -⟩ := TT.out
          exact rg_val (v := .slice (some (ad.add p)) 6 (c - p)) (by simp [execOp, go_sem, e1, e2, e3, t2, t3, t4]; exact fun hh => absurd hh (by omega)) rfl (hN.keep hm (by decide) (by decide) (by decide) (Chg.refl _ _)) (Chg.refl _ _) rfl
        · rintro c1 m a w5 hc1 hN hm hn
          obtain ⟨⟨_, e1, _, g0, rfl, hg0, hbl⟩, ⟨_, e2, _, rfl⟩, -⟩ := hn
          obtain ⟨v', w6, hr, ho, hc6, hne⟩ := run_append_fresh (P := Try.prog) w5 wo.heap.size 22 22 3 i0 (.int .i64 0) 1 8 Try.underlying22 hi hz0 hz1 hz2 rfl (by decide) g0 hg0 hbl (some (ad.add p)) 6 (c - p) (icells (chunk xs f)) (by rw [hchl.out]) (HSRC.out.chg hN.chg (fun k hk => HF2.out k hk)) (by simp only [maxLen]; omega) (by omega) hN.chg.size
          exact rg_val (v := v') (w' := w6) (exec_append (.tmp 28) (.tmp 36) 22 rfl (by simpa [Act.eval] using e1) (by simpa [Act.eval] using e2) hr) rfl (hN.keep hm (by decide) (by decide) (by decide) hc6) (hc6.mono (fun _ _ x => x.elim)) ho
        · rintro c1 m a w5 hc1 hN hm hn
          obtain ⟨⟨rv, e1, hmr, ho⟩, -⟩ := hn
          obtain ⟨Ar, cr, rfl, _⟩ := own_rd ho
          have hca : Chg NoB w5 (w5.alloc (.cells #[.slice Ar 6 cr] 22)) := (Chg.refl _ _).alloc _
          exact rg_val (v := .slice (some ⟨w5.heap.size, 0, none⟩) 1 1) (w' := w5.alloc (.cells #[.slice Ar 6 cr] 22)) (by simp [execOp, go_sem, e1]) rfl (hN.lay hmr (by decide) (by decide) (by decide) (by decide) hm hca hN.chg.size (Blk.new _ _ _) rfl) (hca.mono (fun _ _ x => x.elim)) trivial
        · rintro c1 m a w5 hc1 hN hm hn
          obtain ⟨⟨_, e1, hm1, rfl⟩, ⟨_, e2, hmb, _⟩, -⟩ := hn
          obtain ⟨rv, b, hmr, rfl, hB, hbl, h1c⟩ := hN.elem _ hmb
          have hou := hN.app.1 hm
          obtain ⟨v', w6, hr, ho, hgr, hne⟩ := run_append_rd (P := Try.prog) w5 (V + 1) 32 32 22 j0 (.slice none 0 0) 1 24 Try.underlying32 hj hy0 hy1 hy2 rfl (by decide) _ f (T.map RowO.cell) hou (some ⟨b, 0, none⟩) 1 1 [rv] rfl hbl.rd (fun x hx => by simp at hx; subst hx; exact h1c) (by simp only [maxLen]; omega) (by omega) (by have := hN.chg.size; omega)
          exact rg_val (v := v') (w' := w6) (exec_append (.tmp 27) (.tmp 38) 32 rfl (by simpa [Act.eval] using e1) (by simpa [Act.eval] using e2) hr) rfl (hN.append hm hmr (by rw [hm1]; simp) (by decide) (by decide) (by decide) (by decide) lists_ne (by omega) HU.out hgr ho) ((chg_row hgr).mono fun k _ hk => HU.out k hk) trivial
        · rintro c1 m a w5 hc1 hN hm hn
          have e1 : a.tmps[4]?.getD undef = .pointer (some ⟨V, 0, none⟩) := hn.1
          exact rg_val (v := .pointer (some ⟨V, 0, none⟩)) (by simp [execOp, go_sem, e1]) rfl (hN.keep hm (by decide) (by decide) (by decide) (Chg.refl _ _)) (Chg.refl _ _) rfl
        · rintro c1 m a w5 hc1 hN hm hn
          obtain ⟨⟨_, e1, _, rfl⟩, ⟨v', e2, hma, _⟩, -⟩ := hn
          obtain ⟨news, ⟨rv, hmr, rfl⟩, ho⟩ := hN.app.2 _ hma
          obtain ⟨A5, c5, rfl, _⟩ := own_rd ho
          have hb := hN.var.ready hm
          have f0 := hb.frozen 0
          have x0 : w5.cell? ⟨V, 0, none⟩ = some u := (hb.cell _).trans rfl
          obtain ⟨Au, cu, hu5, _⟩ := own_rd HOU.out
          rw [hu5] at x0
          have hcs : Chg (· = V) w5 (w5.setCell ⟨V, 0, none⟩ (.slice A5 (f + 1) c5)) := (Chg.refl (· = V) w5).setCell (p := ⟨V, 0, none⟩) (.inl rfl) _
          exact rg_skip (w' := w5.setCell ⟨V, 0, none⟩ (.slice A5 (f + 1) c5)) (by simp [execOp, go_sem, e1, e2, x0, f0]) rfl (hN.store hma (by decide) (by decide) (by decide) (by decide) lists_ne (by omega) hVB hcs hb (hb.set_ 0 _)) (hcs.mono fun k _ hk => by rw [hk]; exact hVB) trivial
      · skip
        rintro m w5 hN
        simp only [AllVals]
        rintro rv0 m0 p0 rv1 m1 p1 rv2 m2 p2 rv3 m3 p3 rv4 m4 p4 rv5 m5 p5 rv6 m6 p6 rv7 m7 p7 rv8 m8 p8 rv9 m9 p9 rv10 m10 p10 rv11 m11 p11 rv12 m12 p12 rv13 m13 p13 rv14 m14 p14 rv15 m15 p15
        obtain ⟨hb5, ho5⟩ := hN.done m13 m15 m11
        have hrow := own_row_ok (p11 : w5.ownsRow wo.heap.size 3 1 rv11 6 (icells (chunk xs f))) (chunk_len H48.out hlt) (by omega)
        obtain ⟨g6, c6, rest6, hrv, hok6⟩ := hrow
        have HN := Lib.hid hN
        have HB5 := Lib.hid hb5
        have HO5 := Lib.hid ho5
        have HOK6 := Lib.hid hok6
        have HRV := Lib.hid hrv
        clear p0 p1 p2 p3 p4 p5 p6 p7 p8 p9 p10 p11 p12 p13 p14 p15 hN hb5 ho5 hok6 hrv
        simp only [Act.put, List.setIfInBounds_toArray, List.set_cons_succ, List.set_cons_zero]
        go_wp2_with fail
        go_roundw
        case rel =>
          have hc5 := HN.out.chg
          obtain ⟨A5, c5, hv5, _⟩ := own_rd HO5.out
          have hb5 := HB5.out
          rw [hv5] at hb5
          refine ⟨f + 1, rv13, T ++ [⟨g6, c6, chunk xs f, rest6⟩], by omega, by go_num, HN.out.chg0, HS.out.chg hc5 HF1.out, HR.out.chg hc5 ?_, by rw [hv5]; exact hb5, ?_, ?_, Lib.hid ?_, by have := hc5.size; omega⟩
          · rintro (h1 | h1)
            · omega
            · have := (HOU.out.lt _ h1.symm).1; omega
          · rw [cells_snoc', ← HRV.out]; exact HO5.out
          · have h1 := (HRW.out.chgT hc5 (fun k cs hk hh => by
              rcases hh with h2 | h2
              · subst h2; exact ty_tab (hk.sameTy HVV.out)
              · exact own_ne_box HOU.out hk (Ne.symm ty_ne) h2))
            exact (h1.snoc ⟨by have h6 : wo.heap.size ≤ g6 := HOK6.out.1; show V + 1 ≤ g6; omega, HOK6.out.2⟩ HOK6.out.1)
          · rw [lists_snoc, hT.out, List.take_succ_eq_append_getElem (by rw [chunks_len]; exact hlt), chunks_get]
        case measure => simp [intOf]; omega
    · obtain rfl : f = 8 := by omega
      obtain ⟨A8, c8, rfl, ho8⟩ := OwnS.of_row hou
      have hX : listsOf T = chunks xs := by rw [hT.out]; exact List.take_of_length_le (by rw [chunks_len]; omega)
      have hTO : TabO (V + 1) wo.heap.size wo A8 c8 T := ⟨by rw [hTl]; exact ho8, hrows⟩
      have hTR := hTO.reads
      rw [hX] at hTR
      have HX := Lib.hid hX
      have HTL := Lib.hid hTl
      have HTO := Lib.hid hTO
      have HTR := Lib.hid hTR
      clear hX hTl hTO hTR ho8 hrows hou hT HOU HRW s1
      have v0 : wo.cell? ⟨V, 0, none⟩ = some (.slice A8 8 c8) := (hbv.cell _).trans rfl
      have HCV := Lib.hid hch
      clear hch hbs hbr hbv
      go_wp2_with fail
      have hcv := sTableValid_any _ A8 c8 (chunks xs) wo HTR.out (by rw [chunks_len]; omega) (fun r hr => by
        obtain ⟨k, hk, rfl⟩ := List.getElem_of_mem hr
        rw [chunks_len] at hk
        rw [chunks_get, chunk_len H48.out hk]; omega)
      rw [chunks_len] at hcv
      refine hcv.mono ?_
      rintro e w6 ⟨rb, rfl, hrb, hc6⟩
      have HRB := Lib.hid hrb
      have HC6 := Lib.hid hc6
      have s2 : w6.cell? ⟨w.heap.size, 2, none⟩ = some (.int .i64 s) := ((HS.out.chg hc6 (fun x => x)).cell _).trans rfl
      have v0 := hc6.cell v0 (fun x => x)
      have hr6 := HR.out.chg hc6 (fun x => x)
      have r0 : w6.cell? ⟨w.heap.size + 1, 0, none⟩ = some (.slice none 0 0) := (hr6.cell _).trans rfl
      have rf := hr6.frozen 0
      clear hrb hc6 hr6 hcv
      cases rb
      · go_wp2_with fail
        (try simp only [Exit.inBlock, Exit.then])
        refine bodyPost_ret (v := .tuple #[.agg #[.slice none 0 0], .bool false]) (by simp [results, Try.results29, go_sem, *]) rfl ?_
        exact (HNO (fun hh => absurd (HRB.out.2 hh.2.2.2.1) (by simp)) _ (HCS0.out _ _ (HCV.out.trans HC6.out))).out
      · by_cases hs0 : s < 0
        · have HS0 := Lib.hid hs0
          go_wp2_with fail
          (try simp only [Exit.inBlock, Exit.then])
          refine bodyPost_ret (v := .tuple #[.agg #[.slice none 0 0], .bool false]) (by simp [results, Try.results29, go_sem, *]) rfl ?_
          refine (HNO (fun hh => ?_) _ (HCS0.out _ _ (HCV.out.trans HC6.out))).out
          have h1 := flat_sumArgs (n := n) ⟨hh.2.2.2.1, hh.2.1, hh.2.2.1⟩
          rw [chunks_flat H48.out] at h1
          have h2 := hh.2.2.2.2
          rw [saveSum_t h1] at h2
          have := (sumTo_range n xs).1
          have := HS0.out
          omega
        · have HS0 := Lib.hid hs0
          go_wp2_with fail
          (try simp only [Exit.inBlock, Exit.then])
          refine bodyPost_ret (v := .tuple #[.agg #[.slice A8 8 c8], .bool true]) (by simp [results, Try.results29, go_sem, *]) rfl ?_
          have hq : saveSum n xs = s := by rw [HQ.out, HQS.out]
          have hargs : sumArgs n xs := by
            refine Classical.byContradiction fun hh => ?_
            rw [saveSum_f hh] at hq
            have := HS0.out
            omega
          have hcs : Chg (· = w.heap.size + 1) w6 (w6.setCell ⟨w.heap.size + 1, 0, none⟩ (.slice A8 8 c8)) := (Chg.refl (· = w.heap.size + 1) w6).setCell (p := ⟨w.heap.size + 1, 0, none⟩) (.inl rfl) _
          refine ⟨A8, c8, T, true, by rw [HTL.out], ?_, Lib.hid ⟨fun _ => ⟨HX.out, rfl⟩, fun hh => absurd ⟨H48.out, hargs.1, hargs.2.1, HRB.out.1 trivial, hq⟩ hh⟩, HCS0.out _ _ (HCV.out.trans HC6.out)⟩
          have hsz := HC6.out.size
          have hss : (w6.setCell ⟨w.heap.size + 1, 0, none⟩ (.slice A8 8 c8)).heap.size = w6.heap.size := World.size_setCell _ _ _
          exact ((HTO.out.new HC6.out).chg hcs (fun i h1 h2 h3 => by omega)).more (by omega) (by rw [hss]; omega)
end Go.Proofs.Ytbgepefdfioljaa
