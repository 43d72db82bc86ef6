/- SaveTable of the program and of the reference. -/
import Derived.Test.YtbgepefdfioljaaTs
import Derived.Test.YtbgepefdfioljaaAp
namespace Go.Proofs.Ytbgepefdfioljaa
open Go.RowKit
def savArgs (X : List (List Int)) (n : Int) : Prop := tabOk X ∧ 0 ≤ n ∧ n ≤ 1000000
def SaveIs (X : List (List Int)) (n N : Int) (ys : List Int) (S : Int) : Prop :=
  (savArgs X n → N = n ∧ ys = X.flatten ∧ S = saveSum n X.flatten) ∧ (¬ savArgs X n → N = 0 ∧ ys = [] ∧ S = 0)
theorem SaveIs.det {X : List (List Int)} {n N N' S S' : Int} {ys ys' : List Int} (h : SaveIs X n N ys S) (h' : SaveIs X n N' ys' S') : N = N' ∧ ys = ys' ∧ S = S' := by
  by_cases ha : savArgs X n
  · obtain ⟨a, b, c⟩ := h.1 ha
    obtain ⟨a', b', c'⟩ := h'.1 ha
    exact ⟨by rw [a, a'], by rw [b, b'], by rw [c, c']⟩
  · obtain ⟨a, b, c⟩ := h.2 ha
    obtain ⟨a', b', c'⟩ := h'.2 ha
    exact ⟨by rw [a, a'], by rw [b, b'], by rw [c, c']⟩
def SaveP (w : World) (X : List (List Int)) (n : Int) (e : Ending) (w' : World) : Prop :=
  ∃ N A c ys S, e = .returned (.agg #[.int .i64 N, .slice A (ys : List Int).length c, .int .i64 S]) ∧ OwnS w.heap.size w'.heap.size w' 3 A ys.length c (icells ys) ∧ c ≤ maxLen ∧ Hid (SaveIs X n N ys S) ∧ Chg NoB w w'
theorem own_cap1 {w : World} {B n : Nat} {e : TypeId} {v : Value} {xs : List Value} (h : w.ownsRow B e 1 v n xs) : ∃ A c, v = .slice A n c ∧ OwnS B w.heap.size w e A n c xs ∧ c ≤ maxLen := by
  obtain ⟨A, c, rfl, ho⟩ := OwnS.of_row h
  refine ⟨A, c, rfl, ho, ?_⟩
  rcases h.2 with ⟨h1, _⟩ | ⟨g, cap, cur, h1, _, _, _, h2, _⟩
  · cases h1; exact Nat.zero_le _
  · cases h1; exact h2
theorem flat_take_len {X : List (List Int)} (h : tabOk X) (f : Nat) (hf : f ≤ 8) : (X.take f).flatten.length = 6 * f := by
  induction f with
  | zero => simp
  | succ f ih =>
    have hlt : f < X.length := by rw [h.1]; omega
    rw [take_flat_succ X f hlt, List.length_append, ih (by omega), (h.2 f hlt).1]
    omega
theorem flat_len {X : List (List Int)} (h : tabOk X) : X.flatten.length = 48 := by
  have := flat_take_len h 8 (Nat.le_refl _)
  rwa [List.take_of_length_le (by rw [h.1]; exact Nat.le_refl _)] at this
theorem flat_sumArgs {X : List (List Int)} {n : Int} (h : savArgs X n) : sumArgs n X.flatten := by
  refine ⟨h.2.1, h.2.2, by rw [flat_len h.1]; omega, fun x hx => ?_⟩
  obtain ⟨r, hr, hxr⟩ := List.mem_flatten.1 hx
  obtain ⟨f, hf, rfl⟩ := List.getElem_of_mem hr
  obtain ⟨k, hk, rfl⟩ := List.getElem_of_mem hxr
  have := (h.1.2 f hf).2 k hk
  omega
theorem cells_one' (xs : List Int) : ∀ u ∈ icells xs, u.oneCell' = true := by
  intro u hu
  obtain ⟨x, _, rfl⟩ := List.mem_map.1 hu
  rfl
theorem icells_app (xs ys : List Int) : icells (xs ++ ys) = icells xs ++ icells ys := by simp [icells]

set_option maxRecDepth 100000 in
set_option maxHeartbeats 2000000 in
theorem iSaveTable_any (F : Nat → Prop) (A : Option Addr) (c : Nat) (X : List (List Int)) (n : Int) (w : World) (h : TabR F w A X) :
    Calls Try.prog 22 #[.agg #[.slice A X.length c], .int .i64 n] w (SaveP w X n) := by
  obtain ⟨i0, hi, hz0, hz1, hz2⟩ := info_parts info_int
  obtain ⟨hb1, hb2, hcb⟩ := lit2 w 39 37 #[.slice A X.length c] #[.int .i64 0, .slice none 0 0, .int .i64 0]
  have HB1 := Lib.hid hb1
  have HB2 := Lib.hid hb2
  have HC0 := Lib.hid hcb
  have h0 := h.lt.new hcb
  clear hb1 hb2 hcb
  go_enter Try.func22, Try.ntmps22
  go_wp2_with fail
  refine (iTableValid_any _ A c X _ h0).mono ?_
  rintro e w1 ⟨r, rfl, hr, hc1⟩
  have HC1 := Lib.hid (HC0.out.trans hc1)
  have hb1 := HB1.out.chg hc1 (fun x => x)
  have hb2 := HB2.out.chg hc1 (fun x => x)
  have x0 : w1.cell? ⟨w.heap.size, 0, none⟩ = some (.slice A X.length c) := (hb1.cell _).trans rfl
  have y0 : w1.cell? ⟨w.heap.size + 1, 0, none⟩ = some (.int .i64 0) := (hb2.cell _).trans rfl
  have y1 : w1.cell? ⟨w.heap.size + 1, 1, none⟩ = some (.slice none 0 0) := (hb2.cell _).trans rfl
  have y2 : w1.cell? ⟨w.heap.size + 1, 2, none⟩ = some (.int .i64 0) := (hb2.cell _).trans rfl
  have f0 := hb2.frozen 0
  have f1 := hb2.frozen 1
  have f2 := hb2.frozen 2
  have HB2' := Lib.hid hb2
  have H1 := Lib.hid (h.new HC1.out)
  clear hb1 hb2 hc1 h0
  by_cases ha : savArgs X n
  case neg =>
    have HNO : ∀ wq, wq = ((w1.setCell ⟨w.heap.size + 1, 0, none⟩ (.int .i64 0)).setCell ⟨w.heap.size + 1, 1, none⟩ (.slice none 0 0)).setCell ⟨w.heap.size + 1, 2, none⟩ (.int .i64 0) → Hid (SaveP w X n (.returned (.agg #[.int .i64 0, .slice none 0 0, .int .i64 0])) wq) := fun wq hq => Lib.hid ⟨0, none, 0, [], 0, rfl, OwnS.empty _ _ _ _ _ _, Nat.zero_le _, Lib.hid ⟨fun hh => absurd hh ha, fun _ => ⟨rfl, rfl, rfl⟩⟩, by
      rw [hq]
      exact HC1.out.own ((((Chg.refl (· = w.heap.size + 1) w1).setCell (p := ⟨w.heap.size + 1, 0, none⟩) (.inl rfl) _).setCell (p := ⟨w.heap.size + 1, 1, none⟩) (.inl rfl) _).setCell (p := ⟨w.heap.size + 1, 2, none⟩) (.inl rfl) _) (Nat.le_succ _)⟩
    cases r
    · clear hr
      go_wp2_with fail
      (try simp only [Exit.inBlock, Exit.then])
      refine bodyPost_ret (v := .agg #[.int .i64 0, .slice none 0 0, .int .i64 0]) (by simp [results, Try.results22, go_sem, *]) rfl ?_
      exact (HNO _ rfl).out
    · have hX := hr.1 rfl
      by_cases hn0 : n < 0
      · clear hr hX
        go_wp2_with fail
        (try simp only [Exit.inBlock, Exit.then])
        refine bodyPost_ret (v := .agg #[.int .i64 0, .slice none 0 0, .int .i64 0]) (by simp [results, Try.results22, go_sem, *]) rfl ?_
        exact (HNO _ rfl).out
      · have hn1 : 1000000 < n := by
          rcases Int.lt_or_le 1000000 n with h1 | h1
          · exact h1
          · exact absurd ⟨hX, by omega, h1⟩ ha
        clear hr hX
        go_wp2_with fail
        (try simp only [Exit.inBlock, Exit.then])
        refine bodyPost_ret (v := .agg #[.int .i64 0, .slice none 0 0, .int .i64 0]) (by simp [results, Try.results22, go_sem, *]) rfl ?_
        exact (HNO _ rfl).out
  obtain rfl : r = true := hr.2 ha.1
  have HA := Lib.hid ha
  have h8 : X.length = 8 := ha.1.1
  obtain ⟨_, hn0, hn1⟩ := ha
  clear hr
  go_wp2
  go_loopw [5, 23] (fun v i wr => ∃ f : Nat, f ≤ 8 ∧ i = .int .i64 f ∧ Chg NoB w1 wr ∧ wr.ownsRow w1.heap.size 3 1 v (6 * f) (icells (X.take f).flatten)) (fun _ i _ => 8 - (intOf i).toNat)
  case atStart => exact ⟨0, Nat.zero_le _, rfl, Chg.refl _ _, World.ownsRow_nil _ _ _ _⟩
  case round =>
    obtain ⟨f, hf8, rfl, hch, how⟩ := hrel
    have HC := Lib.hid hch
    have HO := Lib.hid how
    have hsz := hch.size
    by_cases hlt : f < 8
    · have hlt' : f < X.length := by omega
      obtain ⟨ad, B, c', rfl, hfF, hcell, hr, hc1⟩ := (H1.out.new hch) f hlt'
      have h6 : X[f].length = 6 := (HA.out.1.2 f hlt').1
      have hi0 : (0 : Int) ≤ (f : Int) := Int.natCast_nonneg _
      have hi1 : (f : Int) < 8 := by omega
      have HR := Lib.hid hr
      have HTF := Lib.hid (take_flat_succ X f hlt')
      have hone := Lib.hid (cells_one' X[f])
      have hcl := Lib.hid (show (icells X[f]).length = 6 * 1 by rw [icells_length, h6])
      rw [h6] at hcell
      clear hch how hr h6 hc1
      go_wp2_with (at_builtin; refine wpList_append_rd rfl (.tmp 27) (.tmp 28) _ rfl w1.heap.size 3 i0 (.int .i64 0) 1 8 Try.underlying22 hi hz0 hz1 hz2 rfl (by decide) _ _ _ rfl HO.out B 6 c' (icells X[f]) rfl hcl.out HR.out hone.out (by simp only [maxLen]; omega) (by omega) hsz ?_; intro v' w5 hown' hgrow _)
      go_roundw
      case rel =>
        refine ⟨f + 1, by omega, by go_num, chg_grown HO.out hgrow HC.out (Nat.le_refl _), ?_⟩
        rw [HTF.out, icells_app, show 6 * (f + 1) = 6 * f + 6 by omega]
        exact hown'
      case measure => simp [intOf]; omega
    · obtain rfl : f = 8 := by omega
      obtain ⟨A', c', rfl, ho, hcm⟩ := own_cap1 HO.out
      have hXf : X.take 8 = X := List.take_of_length_le (by omega)
      rw [hXf] at ho
      have HW := Lib.hid ho
      have hlen := flat_len HA.out.1
      have hcv := iSaveSum_any _ A' c' n X.flatten wr ho.rd
      rw [hlen] at hcv
      have HCV := Lib.hid hcv
      have HLEN := Lib.hid hlen
      have y0 := hch.cell y0 (fun x => x)
      have y1 := hch.cell y1 (fun x => x)
      have y2 := hch.cell y2 (fun x => x)
      have hb2 := HB2'.out.chg hch (fun x => x)
      have f0 := hb2.frozen 0
      have f1 := hb2.frozen 1
      have f2 := hb2.frozen 2
      have hlt1 : w.heap.size + 1 < w1.heap.size := HB2'.out.lt
      clear hch how ho hcv hlen hXf hb2
      go_wp2_with fail
      refine HCV.out.mono ?_
      rintro e w' ⟨S, rfl, hS, rfl⟩
      go_wp2_with fail
      (try simp only [Exit.inBlock, Exit.then])
      refine bodyPost_ret (v := .agg #[.int .i64 n, .slice A' 48 c', .int .i64 S]) (by simp [results, Try.results22, go_sem, *]) rfl ?_
      have hcs : Chg (· = w.heap.size + 1) wr (((wr.setCell ⟨w.heap.size + 1, 0, none⟩ (.int .i64 n)).setCell ⟨w.heap.size + 1, 1, none⟩ (.slice A' 48 c')).setCell ⟨w.heap.size + 1, 2, none⟩ (.int .i64 S)) := (((Chg.refl (· = w.heap.size + 1) wr).setCell (p := ⟨w.heap.size + 1, 0, none⟩) (.inl rfl) _).setCell (p := ⟨w.heap.size + 1, 1, none⟩) (.inl rfl) _).setCell (p := ⟨w.heap.size + 1, 2, none⟩) (.inl rfl) _
      refine ⟨n, A', c', X.flatten, S, by rw [HLEN.out], ?_, hcm, Lib.hid ⟨fun _ => ⟨rfl, rfl, hS.out⟩, fun hh => absurd HA.out hh⟩, (HC1.out.trans HC.out).own hcs (Nat.le_succ _)⟩
      rw [HLEN.out]
      exact (HW.out.chg hcs (fun i h1 h2 h3 => by omega)).more (by omega) (by simp [World.setCell])
set_option maxRecDepth 100000 in
set_option maxHeartbeats 2000000 in
theorem sSaveTable_any (F : Nat → Prop) (A : Option Addr) (c : Nat) (X : List (List Int)) (n : Int) (w : World) (h : TabR F w A X) (hl : X.length ≤ 9223372036854775807) (hX : ∀ r ∈ X, r.length ≤ 9223372036854775807) :
    Calls Try.prog 20 #[.agg #[.slice A X.length c], .int .i64 n] w (SaveP w X n) := by
  obtain ⟨i0, hi, hz0, hz1, hz2⟩ := info_parts info_int
  obtain ⟨hb1, hb2, hcb⟩ := lit2 w 39 37 #[.slice A X.length c] #[.int .i64 0, .slice none 0 0, .int .i64 0]
  have HB1 := Lib.hid hb1
  have HB2 := Lib.hid hb2
  have HC0 := Lib.hid hcb
  have h0 := h.lt.new hcb
  clear hb1 hb2 hcb
  go_enter Try.func20, Try.ntmps20
  go_wp2_with fail
  refine (sTableValid_any _ A c X _ h0 hl hX).mono ?_
  rintro e w1 ⟨r, rfl, hr, hc1⟩
  have HC1 := Lib.hid (HC0.out.trans hc1)
  have hb1 := HB1.out.chg hc1 (fun x => x)
  have hb2 := HB2.out.chg hc1 (fun x => x)
  have x0 : w1.cell? ⟨w.heap.size, 0, none⟩ = some (.slice A X.length c) := (hb1.cell _).trans rfl
  have y0 : w1.cell? ⟨w.heap.size + 1, 0, none⟩ = some (.int .i64 0) := (hb2.cell _).trans rfl
  have y1 : w1.cell? ⟨w.heap.size + 1, 1, none⟩ = some (.slice none 0 0) := (hb2.cell _).trans rfl
  have y2 : w1.cell? ⟨w.heap.size + 1, 2, none⟩ = some (.int .i64 0) := (hb2.cell _).trans rfl
  have f0 := hb2.frozen 0
  have f1 := hb2.frozen 1
  have f2 := hb2.frozen 2
  have HB2' := Lib.hid hb2
  have H1 := Lib.hid (h.new HC1.out)
  clear hb1 hb2 hc1 h0
  by_cases ha : savArgs X n
  case neg =>
    have HNO : ∀ wq, wq = ((w1.setCell ⟨w.heap.size + 1, 0, none⟩ (.int .i64 0)).setCell ⟨w.heap.size + 1, 1, none⟩ (.slice none 0 0)).setCell ⟨w.heap.size + 1, 2, none⟩ (.int .i64 0) → Hid (SaveP w X n (.returned (.agg #[.int .i64 0, .slice none 0 0, .int .i64 0])) wq) := fun wq hq => Lib.hid ⟨0, none, 0, [], 0, rfl, OwnS.empty _ _ _ _ _ _, Nat.zero_le _, Lib.hid ⟨fun hh => absurd hh ha, fun _ => ⟨rfl, rfl, rfl⟩⟩, by
      rw [hq]
      exact HC1.out.own ((((Chg.refl (· = w.heap.size + 1) w1).setCell (p := ⟨w.heap.size + 1, 0, none⟩) (.inl rfl) _).setCell (p := ⟨w.heap.size + 1, 1, none⟩) (.inl rfl) _).setCell (p := ⟨w.heap.size + 1, 2, none⟩) (.inl rfl) _) (Nat.le_succ _)⟩
    cases r
    · clear hr
      go_wp2_with fail
      (try simp only [Exit.inBlock, Exit.then])
      refine bodyPost_ret (v := .agg #[.int .i64 0, .slice none 0 0, .int .i64 0]) (by simp [results, Try.results20, go_sem, *]) rfl ?_
      exact (HNO _ rfl).out
    · have hX' := hr.1 rfl
      have hl1 : ¬ (0 ≤ n ∧ n ≤ 1000000) := fun hq => ha ⟨hX', hq⟩
      have HL1 := Lib.hid hl1
      clear hr hX' hl1
      go_wp2_with fail
      refine (l1In_f _ 0 1000000 _ HL1.out).mono ?_
      rintro e w' ⟨rfl, rfl⟩
      go_wp2_with fail
      (try simp only [Exit.inBlock, Exit.then])
      refine bodyPost_ret (v := .agg #[.int .i64 0, .slice none 0 0, .int .i64 0]) (by simp [results, Try.results20, go_sem, *]) rfl ?_
      exact (HNO _ rfl).out
  obtain rfl : r = true := hr.2 ha.1
  have HA := Lib.hid ha
  have h8 : X.length = 8 := ha.1.1
  obtain ⟨_, hn0, hn1⟩ := ha
  clear hr
  go_wp2_with fail
  refine (l1In_t _ 0 1000000 _ ⟨hn0, hn1⟩).mono ?_
  rintro e w' ⟨rfl, rfl⟩
  go_wp2
  go_loopw [5, 6] (fun v i wr => ∃ f : Nat, f ≤ 8 ∧ i = .int .i64 f ∧ Chg NoB w1 wr ∧ wr.ownsRow w1.heap.size 3 1 v (6 * f) (icells (X.take f).flatten)) (fun _ i _ => 8 - (intOf i).toNat)
  case atStart => exact ⟨0, Nat.zero_le _, rfl, (Chg.refl _ _).alloc _, own_empty w1 _ 1 _ (Nat.le_refl _)⟩
  case round =>
    obtain ⟨f, hf8, rfl, hch, how⟩ := hrel
    have HC := Lib.hid hch
    have HO := Lib.hid how
    have hsz := hch.size
    have x0 := hch.cell x0 (fun x => x)
    by_cases hlt : f < 8
    · have hlt' : f < X.length := by omega
      obtain ⟨ad, B, c', rfl, hfF, hcell, hr, hc1⟩ := (H1.out.new hch) f hlt'
      have h6 : X[f].length = 6 := (HA.out.1.2 f hlt').1
      have hi0 : (0 : Int) ≤ (f : Int) := Int.natCast_nonneg _
      have hi1 : (f : Int) < 8 := by omega
      have HR := Lib.hid hr
      have HTF := Lib.hid (take_flat_succ X f hlt')
      have hone := Lib.hid (cells_one' X[f])
      have hcl := Lib.hid (show (icells X[f]).length = 6 * 1 by rw [icells_length, h6])
      rw [h6] at hcell
      clear hch how hr h6 hc1
      go_wp2_with (at_builtin; refine wpList_append_rd rfl (.tmp 21) (.tmp 26) _ rfl w1.heap.size 3 i0 (.int .i64 0) 1 8 Try.underlying22 hi hz0 hz1 hz2 rfl (by decide) _ _ _ rfl HO.out B 6 c' (icells X[f]) rfl hcl.out HR.out hone.out (by simp only [maxLen]; omega) (by omega) hsz ?_; intro v' w5 hown' hgrow _)
      go_roundw
      case rel =>
        refine ⟨f + 1, by omega, by go_num, chg_grown HO.out hgrow HC.out (Nat.le_refl _), ?_⟩
        rw [HTF.out, icells_app, show 6 * (f + 1) = 6 * f + 6 by omega]
        exact hown'
      case measure => simp [intOf]; omega
    · obtain rfl : f = 8 := by omega
      obtain ⟨A', c', rfl, ho, hcm⟩ := own_cap1 HO.out
      have hXf : X.take 8 = X := List.take_of_length_le (by omega)
      rw [hXf] at ho
      have HW := Lib.hid ho
      have hlen := flat_len HA.out.1
      have hcv := sSaveSum_any _ A' c' n X.flatten wr ho.rd
      rw [hlen] at hcv
      have HCV := Lib.hid hcv
      have HLEN := Lib.hid hlen
      have y0 := hch.cell y0 (fun x => x)
      have y1 := hch.cell y1 (fun x => x)
      have y2 := hch.cell y2 (fun x => x)
      have hb2 := HB2'.out.chg hch (fun x => x)
      have f0 := hb2.frozen 0
      have f1 := hb2.frozen 1
      have f2 := hb2.frozen 2
      have hlt1 : w.heap.size + 1 < w1.heap.size := HB2'.out.lt
      clear hch how ho hcv hlen hXf hb2
      go_wp2_with fail
      refine HCV.out.mono ?_
      rintro e w' ⟨S, rfl, hS, rfl⟩
      go_wp2_with fail
      (try simp only [Exit.inBlock, Exit.then])
      refine bodyPost_ret (v := .agg #[.int .i64 n, .slice A' 48 c', .int .i64 S]) (by simp [results, Try.results20, go_sem, *]) rfl ?_
      have hcs : Chg (· = w.heap.size + 1) wr (((wr.setCell ⟨w.heap.size + 1, 0, none⟩ (.int .i64 n)).setCell ⟨w.heap.size + 1, 1, none⟩ (.slice A' 48 c')).setCell ⟨w.heap.size + 1, 2, none⟩ (.int .i64 S)) := (((Chg.refl (· = w.heap.size + 1) wr).setCell (p := ⟨w.heap.size + 1, 0, none⟩) (.inl rfl) _).setCell (p := ⟨w.heap.size + 1, 1, none⟩) (.inl rfl) _).setCell (p := ⟨w.heap.size + 1, 2, none⟩) (.inl rfl) _
      refine ⟨n, A', c', X.flatten, S, by rw [HLEN.out], ?_, hcm, Lib.hid ⟨fun _ => ⟨rfl, rfl, hS.out⟩, fun hh => absurd HA.out hh⟩, (HC1.out.trans HC.out).own hcs (Nat.le_succ _)⟩
      rw [HLEN.out]
      exact (HW.out.chg hcs (fun i h1 h2 h3 => by omega)).more (by omega) (by simp [World.setCell])
end Go.Proofs.Ytbgepefdfioljaa
