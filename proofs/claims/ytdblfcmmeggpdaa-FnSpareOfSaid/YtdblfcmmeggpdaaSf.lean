/- Spares: MarkBad of the reference. -/
import Derived.Test.YtdblfcmmeggpdaaSd
import Derived.Test.YtdblfcmmeggpdaaRb
namespace Go.Proofs.Ytdblfcmmeggpdaa
open Go.RowKit
theorem Reach.bounds {b : Int} {xs : List Int} {n m : Int} (h : Reach b xs n m) (h0 : 0 ≤ n) (h1 : n < b + xs.length) (hb : 0 ≤ b) : 0 ≤ m ∧ m < b + xs.length := by
  induction h with
  | here n => exact ⟨h0, h1⟩
  | step k hk _ _ _ ih => exact ih (by omega) (by omega)
theorem spOk_snoc {b e : Int} {xs : List Int} {n m : Int} (h : spArgs b e xs n) (hr : Reach b xs n m) (hm : m ∉ xs) (hl : (xs.length : Int) < e) : spOk b e (xs ++ [m]) := by
  obtain ⟨⟨o1, o2, o3, o4, o5, o6⟩, h0, h1⟩ := h
  obtain ⟨r0, r1⟩ := hr.bounds h0 (by omega) (by omega)
  refine ⟨o1, o2, o3, o4, by simp; omega, fun k hk => ?_⟩
  by_cases hkx : k < xs.length
  · rw [List.getElem_append_left hkx, List.take_append_of_le_length (by omega)]
    exact o6 k hkx
  · obtain rfl : k = xs.length := by simp at hk; omega
    simp
    exact ⟨r0, r1, hm⟩
def MarkP (w : World) (b e : Int) (e' : Ending) (w' : World) : Prop :=
  ∃ v ys f, e' = .returned (.tuple #[.agg #[.int .i64 b, .int .i64 e, v], .bool f]) ∧ w'.ownsRow w.heap.size 3 1 v ys.length (icells ys) ∧ spOk b e ys ∧ Chg NoB w w'
def mbPost (H B : Nat) (b e : Int) (A : Option Addr) (c0 : Nat) (xs : List Int) (i : Nat) : Value → World → Prop :=
  match i with
  | 0 => fun v _ => v = .pointer (some ⟨H, 0, none⟩)
  | 1 => fun v _ => v = .int .i64 b
  | 2 => fun v _ => v = .pointer (some ⟨H, 1, none⟩)
  | 3 => fun v _ => v = .int .i64 e
  | 4 => fun v w => ∃ g, v = .slice (some ⟨g, 0, none⟩) 0 0 ∧ B ≤ g ∧ Blk w g 3 #[]
  | 5 => fun v _ => v = .pointer (some ⟨H, 2, none⟩)
  | 6 => fun v _ => v = .slice A xs.length c0
  | 7 => fun v w => w.ownsRow B 3 1 v xs.length (icells xs)
  | 8 => fun v w => ∃ A' c', v = .agg #[.int .i64 b, .int .i64 e, .slice A' xs.length c'] ∧ w.ownsRow B 3 1 (.slice A' xs.length c') xs.length (icells xs)
  | _ => fun _ _ => True
theorem ty_int_spares : (3 : Nat) ≠ 42 := by decide
theorem mbPost_stab {H B : Nat} {b e : Int} {A : Option Addr} {c0 : Nat} {xs : List Int} {i : Nat} {v : Value} {w1 w2 : World} (h : mbPost H B b e A c0 xs i v w1) (hc : RBox NoB B 42 w1 w2) : mbPost H B b e A c0 xs i v w2 := by
  unfold mbPost at *
  split at h
  all_goals first
    | exact h
    | (obtain ⟨g, h1, h2, h3⟩ := h; exact ⟨g, h1, h2, hc.blk h3 (fun x => x) (.inr ty_int_spares)⟩)
    | exact hc.own h (fun _ _ x => x) ty_int_spares
    | (obtain ⟨A', c', h1, h2⟩ := h; exact ⟨A', c', h1, hc.own h2 (fun _ _ x => x) ty_int_spares⟩)

set_option maxRecDepth 100000 in
set_option maxHeartbeats 4000000 in
theorem MarkBad_any (F : Nat → Prop) (A : Option Addr) (c0 : Nat) (b e : Int) (xs : List Int) (n : Int) (w : World) (h : Rd F w A (icells xs)) (hc : xs.length ≤ c0) (hm : c0 ≤ 9223372036854775807) (ha : spArgs b e xs n) :
    Calls Try.prog 49 #[.agg #[.int .i64 b, .int .i64 e, .slice A xs.length c0], .int .i64 n] w (MarkP w b e) := by
  obtain ⟨i0, hi, hz0, hz1, hz2⟩ := info_parts info_int
  obtain ⟨hb1, hb2, hcb⟩ := lit2 w 42 42 #[.int .i64 b, .int .i64 e, .slice A xs.length c0] #[.int .i64 0, .int .i64 0, .slice none 0 0]
  have HB1 := Lib.hid hb1
  have HB2 := Lib.hid hb2
  have HC0 := Lib.hid hcb
  have HRD0 := Lib.hid (h.lt.chg hcb (fun _ _ x => x))
  have HH := Lib.hid h
  have HA := Lib.hid ha
  have hl12 : xs.length ≤ 12 := by have := ha.1.2.2.2.2.1; have := ha.1.2.2.2.1; omega
  clear h hb1 hb2 hcb
  go_enter Try.func49, Try.ntmps49
  go_wp2_with fail
  refine (sSpareOf_any _ A c0 b e xs n _ HRD0.out hc hm).mono ?_
  rintro e' w1 ⟨r, rfl, hr, _, hc1⟩
  obtain ⟨hr1, hr2⟩ := hr HA.out
  have hbd := hr1.bounds HA.out.2.1 (by have := HA.out.2.2; omega) (by have := HA.out.1.1; omega)
  obtain ⟨m0, m1⟩ := hbd
  have HR1 := Lib.hid hr1
  have HR2 := Lib.hid hr2
  have z0 : w1.cell? ⟨w.heap.size, 0, none⟩ = some (.int .i64 b) := by rw [(HB1.out.chg hc1 (fun x => x)).cell]; rfl
  have z1 : w1.cell? ⟨w.heap.size, 1, none⟩ = some (.int .i64 e) := by rw [(HB1.out.chg hc1 (fun x => x)).cell]; rfl
  have z2 : w1.cell? ⟨w.heap.size, 2, none⟩ = some (.slice A xs.length c0) := by rw [(HB1.out.chg hc1 (fun x => x)).cell]; rfl
  have HRES := Lib.hid (HB2.out.chg hc1 (fun x => x))
  have HC1 := Lib.hid (HC0.out.trans hc1)
  have HRD1 := Lib.hid (HRD0.out.new hc1)
  clear hr1 hr2 hr hc1
  go_wp2_with fail
  refine wp_region_rg (WInv := fun c m w4 => Chg NoB w1 w4 ∧ BoxI w1.heap.size 42 #[.int .i64 0, .int .i64 0, .slice none 0 0] 9 10 8 m w4) (R := RBox NoB w1.heap.size 42) (Post := mbPost w.heap.size w1.heap.size b e A c0 xs) (by kernel_rfl) (by kernel_rfl) (fun _ _ _ _ h _ _ => h) (fun i v w1 w2 => mbPost_stab) ⟨(Chg.refl _ _).drew, BoxI.start⟩ ?_ ?_
  · refine ⟨?_, ?_, ?_, ?_, ?_, ?_, ?_, ?_, ?_, ?_, ?_, trivial⟩
    · rintro c m a w4 hc ⟨hch, hbx⟩ hm hn
      have e1 : a.tmps[2]?.getD undef = .pointer (some ⟨w.heap.size, 0, none⟩) := hn.1
      exact rg_val (v := .pointer (some ⟨w.heap.size, 0, none⟩)) (by simp [execOp, go_sem, e1]) rfl ⟨hch, hbx.keep (by decide) (by decide) hm (Chg.refl NoB _) (fun _ _ x => x)⟩ (Chg.refl _ _) rfl
    · rintro c m a w4 hc ⟨hch, hbx⟩ hm hn
      obtain ⟨⟨_, e1, _, rfl⟩, -⟩ := hn
      have hz : w4.cell? ⟨w.heap.size, 0, none⟩ = some (.int .i64 b) := hch.cell z0 (fun x => x)
      exact rg_val (v := .int .i64 b) (by simp [execOp, go_sem, e1, hz]) rfl ⟨hch, hbx.keep (by decide) (by decide) hm (Chg.refl NoB _) (fun _ _ x => x)⟩ (Chg.refl _ _) rfl
    · rintro c m a w4 hc ⟨hch, hbx⟩ hm hn
      have e1 : a.tmps[2]?.getD undef = .pointer (some ⟨w.heap.size, 0, none⟩) := hn.1
      exact rg_val (v := .pointer (some ⟨w.heap.size, 1, none⟩)) (by simp [execOp, go_sem, e1]) rfl ⟨hch, hbx.keep (by decide) (by decide) hm (Chg.refl NoB _) (fun _ _ x => x)⟩ (Chg.refl _ _) rfl
    · rintro c m a w4 hc ⟨hch, hbx⟩ hm hn
      obtain ⟨⟨_, e1, _, rfl⟩, -⟩ := hn
      have hz : w4.cell? ⟨w.heap.size, 1, none⟩ = some (.int .i64 e) := hch.cell z1 (fun x => x)
      exact rg_val (v := .int .i64 e) (by simp [execOp, go_sem, e1, hz]) rfl ⟨hch, hbx.keep (by decide) (by decide) hm (Chg.refl NoB _) (fun _ _ x => x)⟩ (Chg.refl _ _) rfl
    · rintro c m a w4 hc ⟨hch, hbx⟩ hm hn
      have hca : Chg NoB w4 (w4.alloc (.cells #[] 3)) := (Chg.refl _ _).alloc _
      exact rg_val (v := .slice (some ⟨w4.heap.size, 0, none⟩) 0 0) (w' := w4.alloc (.cells #[] 3)) (by simp [execOp, go_sem]) rfl ⟨hch.trans hca, hbx.keep (by decide) (by decide) hm hca (fun _ _ x => x)⟩ (RBox.of hca (fun _ x => x)) ⟨_, rfl, hch.size, Blk.new _ _ _⟩
    · rintro c m a w4 hc ⟨hch, hbx⟩ hm hn
      have e1 : a.tmps[2]?.getD undef = .pointer (some ⟨w.heap.size, 0, none⟩) := hn.1
      exact rg_val (v := .pointer (some ⟨w.heap.size, 2, none⟩)) (by simp [execOp, go_sem, e1]) rfl ⟨hch, hbx.keep (by decide) (by decide) hm (Chg.refl NoB _) (fun _ _ x => x)⟩ (Chg.refl _ _) rfl
    · rintro c m a w4 hc ⟨hch, hbx⟩ hm hn
      obtain ⟨⟨_, e1, _, rfl⟩, -⟩ := hn
      have hz : w4.cell? ⟨w.heap.size, 2, none⟩ = some (.slice A xs.length c0) := hch.cell z2 (fun x => x)
      exact rg_val (v := .slice A xs.length c0) (by simp [execOp, go_sem, e1, hz]) rfl ⟨hch, hbx.keep (by decide) (by decide) hm (Chg.refl NoB _) (fun _ _ x => x)⟩ (Chg.refl _ _) rfl
    · rintro c m a w4 hc ⟨hch, hbx⟩ hm hn
      obtain ⟨⟨_, e1, _, g0, rfl, hg0, hbl⟩, ⟨_, e2, _, rfl⟩, -⟩ := hn
      obtain ⟨v', w5, hr, ho, hc5, hne⟩ := run_append_fresh (P := Try.prog) w4 w1.heap.size 31 31 3 i0 (.int .i64 0) 1 8 Try.underlying31 hi hz0 hz1 hz2 rfl (by decide) g0 hg0 hbl A xs.length c0 (icells xs) (by rw [icells_length, Nat.mul_one]) (HRD1.out.new hch) (by simp only [maxLen]; omega) (by omega) hch.size
      exact rg_val (v := v') (w' := w5) (exec_append (.tmp 18) (.tmp 20) 31 rfl (by simpa [Act.eval] using e1) (by simpa [Act.eval] using e2) hr) rfl ⟨hch.trans hc5, hbx.keep (by decide) (by decide) hm hc5 (fun _ _ x => x)⟩ (RBox.of hc5 (fun _ x => x)) ho
    · rintro c m a w4 hc ⟨hch, hbx⟩ hm hn
      obtain ⟨⟨_, e1, _, rfl⟩, ⟨_, e2, _, rfl⟩, ⟨u, e3, _, ho⟩, -⟩ := hn
      obtain ⟨A', c', rfl, _⟩ := own_rd ho
      exact rg_val (v := .agg #[.int .i64 b, .int .i64 e, .slice A' xs.length c']) (by simp [execOp, go_sem, e1, e2, e3]) rfl ⟨hch, hbx.keep (by decide) (by decide) hm (Chg.refl NoB _) (fun _ _ x => x)⟩ (Chg.refl _ _) ⟨_, _, rfl, ho⟩
    · rintro c m a w4 hc ⟨hch, hbx⟩ hm hn
      have hca : Chg NoB w4 (w4.alloc (.cells #[.int .i64 0, .int .i64 0, .slice none 0 0] 42)) := (Chg.refl _ _).alloc _
      exact rg_val (v := .pointer (some ⟨w4.heap.size, 0, none⟩)) (w' := w4.alloc (.cells #[.int .i64 0, .int .i64 0, .slice none 0 0] 42)) (by simp [execOp, go_sem]) rfl ⟨hch.trans hca, hbx.alloc (by decide) hm hch.size⟩ (RBox.of hca (fun _ x => x)) trivial
    · rintro c m a w4 hc ⟨hch, hbx⟩ hm hn
      obtain ⟨⟨p, e1, hm9, _⟩, ⟨_, e2, hm8, A', c', rfl, ho⟩, -⟩ := hn
      obtain ⟨bx, rfl, hB, hb⟩ := hbx.ready hm hm9
      have f0 := hb.frozen 0
      have f1 := hb.frozen 1
      have f2 := hb.frozen 2
      have x0 : w4.cell? ⟨bx, 0, none⟩ = some (.int .i64 0) := by rw [hb.cell]; rfl
      have x1 : w4.cell? ⟨bx, 1, none⟩ = some (.int .i64 0) := by rw [hb.cell]; rfl
      have x2 : w4.cell? ⟨bx, 2, none⟩ = some (.slice none 0 0) := by rw [hb.cell]; rfl
      have hst : Chg (· = bx) w4 (((w4.setCell ⟨bx, 0, none⟩ (.int .i64 b)).setCell ⟨bx, 1, none⟩ (.int .i64 e)).setCell ⟨bx, 2, none⟩ (.slice A' xs.length c')) := (((Chg.refl (· = bx) w4).setCell (p := ⟨bx, 0, none⟩) (.inl rfl) _).setCell (p := ⟨bx, 1, none⟩) (.inl rfl) _).setCell (p := ⟨bx, 2, none⟩) (.inl rfl) _
      have hb' : Blk (((w4.setCell ⟨bx, 0, none⟩ (.int .i64 b)).setCell ⟨bx, 1, none⟩ (.int .i64 e)).setCell ⟨bx, 2, none⟩ (.slice A' xs.length c')) bx 42 #[.int .i64 b, .int .i64 e, .slice A' xs.length c'] := ((hb.set_ 0 _).set_ 1 _).set_ 2 _
      exact rg_skip (w' := ((w4.setCell ⟨bx, 0, none⟩ (.int .i64 b)).setCell ⟨bx, 1, none⟩ (.int .i64 e)).setCell ⟨bx, 2, none⟩ (.slice A' xs.length c')) (by simp [execOp, go_sem, e1, e2, x0, x1, x2, f0, f1, f2]) rfl ⟨hch.own hst hB, BoxI.store (by decide) (by decide) hm9 hB hm8 hb'⟩ (RBox.box hst hB hb) trivial
  · rintro m w4 ⟨hch, hbx⟩
    simp only [AllVals]
    rintro v0 m0 p0 v1 m1 p1 v2 m2 p2 v3 m3 p3 v4 m4 p4 v5 m5 p5 v6 m6 p6 v7 m7 p7 v8 m8 p8 v9 m9 p9 v10 m10 p10
    obtain ⟨A', c', rfl, ho⟩ := p8
    obtain ⟨bx, rfl, hB, hb⟩ := hbx.done m9 m10 m8
    obtain rfl := p0
    obtain rfl := p1
    obtain rfl := p2
    obtain rfl := p3
    obtain rfl := p5
    obtain rfl := p6
    clear p4 p7 p9 p10 hbx
    simp only [Act.put, List.setIfInBounds_toArray, List.set_cons_succ, List.set_cons_zero]
    have y0 := hch.cell z0 (fun x => x)
    have y1 := hch.cell z1 (fun x => x)
    have y2 := hch.cell z2 (fun x => x)
    have b0 : w4.cell? ⟨bx, 0, none⟩ = some (.int .i64 b) := by rw [hb.cell]; rfl
    have b1 : w4.cell? ⟨bx, 1, none⟩ = some (.int .i64 e) := by rw [hb.cell]; rfl
    have b2 : w4.cell? ⟨bx, 2, none⟩ = some (.slice A' xs.length c') := by rw [hb.cell]; rfl
    have hbf := hb.frozen 2
    have hres := HRES.out.chg hch (fun x => x)
    have r0 : w4.cell? ⟨w.heap.size + 1, 0, none⟩ = some (.int .i64 0) := by rw [hres.cell]; rfl
    have r1 : w4.cell? ⟨w.heap.size + 1, 1, none⟩ = some (.int .i64 0) := by rw [hres.cell]; rfl
    have r2 : w4.cell? ⟨w.heap.size + 1, 2, none⟩ = some (.slice none 0 0) := by rw [hres.cell]; rfl
    have f0 := hres.frozen 0
    have f1 := hres.frozen 1
    have f2 := hres.frozen 2
    have HC4 := Lib.hid (HC1.out.trans hch)
    have HCH := Lib.hid hch
    have HO4 := Lib.hid (own_low ho HC1.out.size)
    have HOB := Lib.hid ho
    have HBB := Lib.hid hb
    have hsz1 := HC1.out.size
    have hsz4 := hch.size
    have hlt1 : w.heap.size + 1 < w1.heap.size := HRES.out.lt
    have hne : bx ≠ w.heap.size + 1 := by omega
    have hne' : ¬ (w.heap.size + 1 = bx) := by omega
    have hm0 : ¬ r < 0 := by omega
    clear hres hch hb ho z0 z1 z2
    by_cases he : (xs.length : Int) = e
    · have he' : ((xs.length : Int) == e) = true := beq_iff_eq.2 he
      have HE := Lib.hid he
      clear he
      go_wp2_with fail
      (try simp only [Exit.inBlock, Exit.then])
      refine bodyPost_ret (v := .tuple #[.agg #[.int .i64 b, .int .i64 e, .slice A' xs.length c'], .bool false]) (by simp [results, Try.results49, go_sem, *]) rfl ?_
      have hcs : Chg (· = w.heap.size + 1) w4 (((w4.setCell ⟨w.heap.size + 1, 0, none⟩ (.int .i64 b)).setCell ⟨w.heap.size + 1, 1, none⟩ (.int .i64 e)).setCell ⟨w.heap.size + 1, 2, none⟩ (.slice A' xs.length c')) := (((Chg.refl (· = w.heap.size + 1) w4).setCell (p := ⟨w.heap.size + 1, 0, none⟩) (.inl rfl) _).setCell (p := ⟨w.heap.size + 1, 1, none⟩) (.inl rfl) _).setCell (p := ⟨w.heap.size + 1, 2, none⟩) (.inl rfl) _
      exact ⟨_, xs, false, rfl, own_low (own_chg HOB.out hcs (fun i hi he => by omega)) (by omega), HA.out.1, HC4.out.own hcs (Nat.le_succ _)⟩
    · have he' : ((xs.length : Int) == e) = false := beq_eq_false_iff_ne.2 he
      have HE := Lib.hid he
      clear he
      go_wp2_with (at_builtin; refine wpList_append_own _ rfl (.tmp 31) (.tmp 33) _ rfl w1.heap.size 3 i0 (.int .i64 0) 1 8 Try.underlying31 hi hz0 hz1 hz2 rfl (by decide) _ _ _ rfl (HOB.out.alloc _) ⟨w4.heap.size, 0, none⟩ 1 1 [.int .i64 r] rfl rfl (cells_new _ _ _) (by simp [Value.oneCell']) (by simp only [maxLen]; omega) (by omega) (by simp; omega) ?_; intro v5 w5 hown5 hgrow _; obtain ⟨A5, c5, hv5, _⟩ := own_rd hown5; subst hv5; have hcg := chg_row hgrow; have hbx5 := (HBB.out.chg ((Chg.refl NoB w4).alloc _) (fun x => x)).chg hcg (own_ne_box HOB.out HBB.out ty_int_spares); have hres5 := ((HRES.out.chg HCH.out (fun x => x)).chg ((Chg.refl NoB w4).alloc _) (fun x => x)).chg hcg (fun hq => by have := (HOB.out.lt _ hq.symm).1; omega); have HCW := Lib.hid (chg_grown (HOB.out.alloc _) hgrow (HC4.out.alloc _) HC1.out.size); have b0 : w5.cell? ⟨bx, 0, none⟩ = some (.int .i64 b) := (hbx5.cell _).trans rfl; have b1 : w5.cell? ⟨bx, 1, none⟩ = some (.int .i64 e) := (hbx5.cell _).trans rfl; have b2 : w5.cell? ⟨bx, 2, none⟩ = some (.slice A' xs.length c') := (hbx5.cell _).trans rfl; have hbf := hbx5.frozen 2; have r0 : w5.cell? ⟨w.heap.size + 1, 0, none⟩ = some (.int .i64 0) := (hres5.cell _).trans rfl; have r1 : w5.cell? ⟨w.heap.size + 1, 1, none⟩ = some (.int .i64 0) := (hres5.cell _).trans rfl; have r2 : w5.cell? ⟨w.heap.size + 1, 2, none⟩ = some (.slice none 0 0) := (hres5.cell _).trans rfl; have f0 := hres5.frozen 0; have f1 := hres5.frozen 1; have f2 := hres5.frozen 2; have HO5 := Lib.hid hown5; have HB5 := Lib.hid hbx5; clear hown5 hgrow hcg hbx5 hres5)
      (try simp only [Exit.inBlock, Exit.then])
      refine bodyPost_ret (v := .tuple #[.agg #[.int .i64 b, .int .i64 e, .slice A5 (xs.length + 1) c5], .bool true]) (by simp [results, Try.results49, go_sem, *]) rfl ?_
      have hcs : Chg (fun k => k = w.heap.size + 1 ∨ k = bx) w5 ((((w5.setCell ⟨bx, 2, none⟩ (.slice A5 (xs.length + 1) c5)).setCell ⟨w.heap.size + 1, 0, none⟩ (.int .i64 b)).setCell ⟨w.heap.size + 1, 1, none⟩ (.int .i64 e)).setCell ⟨w.heap.size + 1, 2, none⟩ (.slice A5 (xs.length + 1) c5)) := ((((Chg.refl (fun k => k = w.heap.size + 1 ∨ k = bx) w5).setCell (p := ⟨bx, 2, none⟩) (.inl (.inr rfl)) _).setCell (p := ⟨w.heap.size + 1, 0, none⟩) (.inl (.inl rfl)) _).setCell (p := ⟨w.heap.size + 1, 1, none⟩) (.inl (.inl rfl)) _).setCell (p := ⟨w.heap.size + 1, 2, none⟩) (.inl (.inl rfl)) _
      refine ⟨_, xs ++ [r], true, rfl, ?_, spOk_snoc HA.out HR1.out HR2.out (by have := HA.out.1.2.2.2.2.1; have := HE.out; omega), HCW.out.trans' hcs (fun i hi => .inr (by rcases hi with h | h <;> omega))⟩
      have ho5 := HO5.out
      have e1 : icells (xs ++ [r]) = icells xs ++ [Value.int .i64 r] := by simp [icells]
      rw [e1, List.length_append]
      refine own_low (own_chg1 ho5 hcs (fun g cs hg hb hk => ?_)) (Nat.le_trans (Nat.le_succ _) (Nat.le_of_lt hlt1))
      rcases hk with hk | hk
      · omega
      · subst hk; exact ty_int_spares (hb.sameTy HB5.out)
end Go.Proofs.Ytdblfcmmeggpdaa
