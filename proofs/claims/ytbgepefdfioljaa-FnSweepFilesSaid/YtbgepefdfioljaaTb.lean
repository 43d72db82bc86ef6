/- The laws' helpers on tables: copies, comparisons, marks. -/
import Derived.Test.YtbgepefdfioljaaTa
namespace Go.Proofs.Ytbgepefdfioljaa
open Go.RowKit
theorem info_ints : (Try.prog.info? 22).map (fun i => (i.zero, i.size, i.bytes)) = some (some (.slice none 0 0), 1, 24) := by kernel_rfl
theorem cells_snoc (T : List RowO) (r : RowO) : (T ++ [r]).map RowO.cell = T.map RowO.cell ++ [r.cell] := by simp

set_option maxRecDepth 100000 in
set_option maxHeartbeats 2000000 in
theorem toIntSS_any (F : Nat → Prop) (A : Option Addr) (c : Nat) (X : List (List Int)) (w : World) (h : TabR F w A X) (hX : total X ≤ 1048576) :
    Calls Try.prog 58 #[.slice A X.length c] w fun e w' => ∃ g T, e = .returned (.slice (some ⟨g, 0, none⟩) X.length X.length) ∧ listsOf T = X ∧ w.heap.size ≤ g ∧ Chg NoB w w' ∧ TabO w.heap.size w'.heap.size w' (some ⟨g, 0, none⟩) X.length T := by
  obtain ⟨i0, hi, hz0, hz1, hz2⟩ := info_parts info_ints
  have hXl : X.length ≤ 1048576 := by unfold total at hX; omega
  have hmk := fun W => run_make_reps (P := Try.prog) 32 22 i0 (.slice none 0 0) [.slice none 0 0] Try.underlying32 hi hz0 rfl hz1 X.length (by rw [hz2]; omega) (by omega) W
  go_enter Try.func58, Try.ntmps58
  go_wp2
  go_loopw [4] (fun i wr => ∃ (k : Nat) (T : List RowO), k ≤ X.length ∧ i = .int .i64 k ∧ Chg NoB w wr ∧ Hid (listsOf T = X.take k) ∧ RowsO (w.heap.size + 1) wr.heap.size wr T ∧ Blk wr w.heap.size 22 (T.map RowO.cell ++ reps (X.length - k) [.slice none 0 0]).toArray) (fun i _ => X.length - (intOf i).toNat)
  case atStart => exact ⟨0, [], Nat.zero_le _, rfl, (Chg.refl _ _).alloc _, Lib.hid rfl, RowsO.nil _ _ _, Blk.new _ _ _⟩
  case round =>
    obtain ⟨k, T, hk, rfl, hch, hT, hrows, hb⟩ := hrel
    have hTl : T.length = k := by have := congrArg List.length hT.out; rw [listsOf_length, List.length_take] at this; omega
    by_cases hlt : k < X.length
    · obtain ⟨ad, B, c', rfl, hf, hcell, hr, hc1⟩ := (h.lt.new hch) k hlt
      have hlen : X[k].length ≤ 1048576 := by have := total_row X k hlt; omega
      have hi0 : (0 : Int) ≤ (k : Int) := Int.natCast_nonneg _
      have hi1 : (k : Int) < (X.length : Int) := by omega
      have HC := Lib.hid hch
      have HB := Lib.hid hb
      have HR := Lib.hid hrows
      clear hch hb hrows
      go_wp2_with fail
      refine (toIntS_any _ B c' X[k] _ hr hlen).mono ?_
      rintro e w1 ⟨g1, rfl, hg1, hc2, hb1⟩
      have hb2 := HB.out.chg hc2 (fun x => x)
      obtain ⟨r, hr⟩ : ∃ r, X.length - k = r + 1 := ⟨X.length - k - 1, by omega⟩
      have hr1 : X.length - (k + 1) = r := by omega
      rw [hr, reps_succ] at hb2
      have hlenT : (T.map RowO.cell).length = k := by rw [List.length_map, hTl]
      have hroom := hb2.room hlenT
      have hfr := hb2.frozen k
      have hsz := HC.out.size
      have hws := HB.out.lt
      have HF := Lib.hid (hb2.fill1 hlenT (.slice (some ⟨g1, 0, none⟩) X[k].length X[k].length))
      have hcs : Chg (· = w.heap.size) w1 (w1.setCell ⟨w.heap.size, k, none⟩ (.slice (some ⟨g1, 0, none⟩) X[k].length X[k].length)) := (Chg.refl (· = w.heap.size) w1).setCell (p := ⟨w.heap.size, k, none⟩) (.inl rfl) _
      have hg2 : w.heap.size + 1 ≤ g1 := by omega
      have hg3 : wr.heap.size ≤ g1 := by omega
      have hok : RowO.ok (w.heap.size + 1) w1.heap.size w1 ⟨g1, X[k].length, X[k], []⟩ := ⟨hg2, hb1.lt, by rw [List.append_nil]; exact hb1, Nat.le_refl _⟩
      have hsz1 : (w1.setCell ⟨w.heap.size, k, none⟩ (.slice (some ⟨g1, 0, none⟩) X[k].length X[k].length)).heap.size = w1.heap.size := by simp [World.setCell]
      have HRW := Lib.hid (((HR.out.new hc2).snoc hok hg3).chg hcs (fun i h1 h2 => by omega))
      have HCW := Lib.hid ((HC.out.trans hc2).setCell (p := ⟨w.heap.size, k, none⟩) (.inr (Nat.le_refl _)) (.slice (some ⟨g1, 0, none⟩) X[k].length X[k].length))
      have HSZ := Lib.hid hsz1
      have HL := Lib.hid (show listsOf (T ++ [⟨g1, X[k].length, X[k], []⟩]) = X.take (k + 1) by
        unfold listsOf at *
        rw [List.map_append, hT.out, List.take_succ_eq_append_getElem hlt]; rfl)
      have HR1 := Lib.hid hr1
      clear hr hr1 hlenT hb2 hb1 hok hcs hsz1 hc2 hcell hg1 hg2 hg3
      go_wp2
      go_roundw
      case rel =>
        refine ⟨k + 1, T ++ [⟨g1, X[k].length, X[k], []⟩], by omega, by go_num, HCW.out, HL, by rw [HSZ.out]; exact HRW.out, ?_⟩
        rw [HR1.out, cells_snoc, List.append_assoc]
        exact HF.out
      case measure => simp [intOf]; omega
    · have hk' : k = X.length := by omega
      subst hk'
      have HB := Lib.hid hb
      have HC := Lib.hid hch
      have HR := Lib.hid hrows
      clear hb hch hrows
      go_wp2
      go_ret
      have hTX : listsOf T = X := by have := hT.out; rwa [List.take_length] at this
      refine ⟨w.heap.size, T, rfl, hTX, Nat.le_refl _, HC.out, ?_, HR.out.more (by omega) (Nat.le_refl _)⟩
      have hb := HB.out
      rw [Nat.sub_self, reps_zero, List.append_nil] at hb
      rw [← listsOf_length, hTX]
      exact OwnS.of_blk hb (Nat.le_refl _) hb.lt (Nat.le_refl _)

set_option maxRecDepth 100000 in
set_option maxHeartbeats 1000000 in
theorem toTable_any (F : Nat → Prop) (A : Option Addr) (c : Nat) (X : List (List Int)) (w : World) (h : TabR F w A X) (hX : total X ≤ 1048576) :
    Calls Try.prog 21 #[.agg #[.slice A X.length c]] w fun e w' => ∃ g T, e = .returned (.agg #[.slice (some ⟨g, 0, none⟩) X.length X.length]) ∧ listsOf T = X ∧ Chg NoB w w' ∧ TabO w.heap.size w'.heap.size w' (some ⟨g, 0, none⟩) X.length T := by
  have hca := (Chg.refl NoB w).alloc (.cells #[.slice A X.length c] 34)
  obtain ⟨hb1, hb2, hcb⟩ := lit2 (w.alloc (.cells #[.slice A X.length c] 34)) 39 39 #[.slice none 0 0] #[.slice none 0 0]
  rw [World.size_alloc] at hb1 hb2
  have HC := Lib.hid (hca.trans hcb)
  have HR0 := Lib.hid (h.lt.new HC.out)
  have HB1 := Lib.hid hb1
  have HB2 := Lib.hid hb2
  clear hca hcb hb1 hb2
  go_enter Try.func21, Try.ntmps21
  go_wp2_with fail
  refine (toIntSS_any _ A c X _ HR0.out hX).mono ?_
  rintro e' w1 ⟨g, T, rfl, hT, hg, hc1, hO⟩
  have hb1 := HB1.out.chg hc1 (fun x => x)
  have hb2 := HB2.out.chg hc1 (fun x => x)
  have x0 : w1.cell? ⟨w.heap.size + 1, 0, none⟩ = some (.slice none 0 0) := (hb1.cell _).trans rfl
  have y0 : w1.cell? ⟨w.heap.size + 1 + 1, 0, none⟩ = some (.slice none 0 0) := (hb2.cell _).trans rfl
  have f0 := hb1.frozen 0
  have f1 := hb2.frozen 0
  have hsz : w.heap.size + 1 + 1 < (((w.alloc (.cells #[.slice A X.length c] 34)).alloc (.cells #[.slice none 0 0] 39)).alloc (.cells #[.slice none 0 0] 39)).heap.size := HB2.out.lt
  have HSZ := Lib.hid hsz
  have HC1 := Lib.hid (HC.out.trans hc1)
  have HO := Lib.hid hO
  have HT := Lib.hid hT
  clear hb1 hb2 hc1 hO hsz hg hT
  go_wp2_with fail
  (try simp only [Exit.inBlock, Exit.then])
  refine bodyPost_ret (v := .agg #[.slice (some ⟨g, 0, none⟩) X.length X.length]) (by simp [results, Try.results21, go_sem, *]) rfl ?_
  have hcs : Chg (fun i => i = w.heap.size + 1 ∨ i = w.heap.size + 1 + 1) w1 ((w1.setCell ⟨w.heap.size + 1 + 1, 0, none⟩ (.slice (some ⟨g, 0, none⟩) X.length X.length)).setCell ⟨w.heap.size + 1, 0, none⟩ (.slice (some ⟨g, 0, none⟩) X.length X.length)) := ((Chg.refl (fun i => i = w.heap.size + 1 ∨ i = w.heap.size + 1 + 1) w1).setCell (p := ⟨w.heap.size + 1 + 1, 0, none⟩) (.inl (.inr rfl)) _).setCell (p := ⟨w.heap.size + 1, 0, none⟩) (.inl (.inl rfl)) _
  have hw : ((w1.setCell ⟨w.heap.size + 1 + 1, 0, none⟩ (.slice (some ⟨g, 0, none⟩) X.length X.length)).setCell ⟨w.heap.size + 1, 0, none⟩ (.slice (some ⟨g, 0, none⟩) X.length X.length)).heap.size = w1.heap.size := by simp [World.setCell]
  refine ⟨g, T, rfl, HT.out, HC1.out.trans' hcs (fun i hi => .inr (by omega)), ?_⟩
  rw [hw]
  exact (HO.out.chg hcs (fun i h1 h2 h3 => by have := HSZ.out; omega)).more HC.out.size (Nat.le_refl _)
theorem quiet_left2 {P : Program} {f : FuncId} {args : Array Value} {w : World} {n : Nat} {v : Value}
    (h : Calls P f args (w.drewN n) fun e w' => e = .returned v ∧ ∃ m, w' = (w.drewN n).drewN m) : Calls P f args (w.drewN n) fun e w'' => e = .returned v ∧ ∃ m, w'' = w.drewN m :=
  h.mono fun _ _ ⟨he, m, hm⟩ => ⟨he, n + m, by rw [hm]; simp [World.drewN, Nat.add_assoc]⟩
set_option maxRecDepth 100000 in
set_option maxHeartbeats 1000000 in
theorem eqIntSS_t (F G : Nat → Prop) (A B : Option Addr) (c d : Nat) (X : List (List Int)) (w : World) (h : TabR F w A X) (h' : TabR G w B X) (hl : X.length ≤ 9223372036854775807) (hX : ∀ r ∈ X, r.length ≤ 9223372036854775807) :
    Calls Try.prog 59 #[.slice A X.length c, .slice B X.length d] w fun e w' => e = .returned (.bool true) ∧ ∃ m, w' = w.drewN m := by
  have hne : ((X.length : Int) != (X.length : Int)) = false := by simp
  go_enter Try.func59, Try.ntmps59
  go_wp2
  go_loopw [5] (fun i wr => ∃ k : Nat, k ≤ X.length ∧ i = .int .i64 k ∧ ∃ m, wr = w.drewN m) (fun i _ => X.length - (intOf i).toNat)
  case atStart => exact ⟨0, Nat.zero_le _, rfl, 0, rfl⟩
  case round =>
    obtain ⟨k, hk, rfl, m, hwm⟩ := hrel
    have HW := Lib.hid hwm
    have hcw : Chg NoB w wr := by rw [hwm]; exact (Chg.refl _ _).drewN _
    clear hwm
    by_cases hlt : k < X.length
    · obtain ⟨ad, B1, c1, rfl, hf, hcell, hr, hc1⟩ := (h.new hcw) k hlt
      obtain ⟨ad', B2, c2, rfl, hf', hcell', hr', hc2⟩ := (h'.new hcw) k hlt
      have hlen := hX _ (List.getElem_mem hlt)
      have hi0 : (0 : Int) ≤ (k : Int) := Int.natCast_nonneg _
      have hi1 : (k : Int) < (X.length : Int) := by omega
      have HQ : ∀ n, Hid (Calls Try.prog 16 #[.slice B1 X[k].length c1, .slice B2 X[k].length c2] (wr.drewN n) fun e w'' => e = .returned (.bool true) ∧ ∃ m', w'' = wr.drewN m') := fun n => Lib.hid (quiet_left2 (eqIntS_t _ _ B1 B2 c1 c2 X[k] _ (hr.new ((Chg.refl NoB wr).drewN n)) (hr'.new ((Chg.refl NoB wr).drewN n)) hlen))
      clear hr hr' hlen hcw
      go_wp2
      go_quiet ((go_at_call 16; exact (HQ _).out))
      go_wp2
      go_roundw
      case rel => exact ⟨k + 1, by omega, by go_num, m + nq, by rw [HW.out]; simp [World.drewN, Nat.add_assoc]⟩
      case measure => simp [intOf]; omega
    · clear hcw
      go_wp2
      go_ret
      exact ⟨rfl, m, HW.out⟩
theorem eqTable_t (F G : Nat → Prop) (A B : Option Addr) (c d : Nat) (X : List (List Int)) (w : World) (h : TabR F w A X) (h' : TabR G w B X) (hl : X.length ≤ 9223372036854775807) (hX : ∀ r ∈ X, r.length ≤ 9223372036854775807) :
    Calls Try.prog 24 #[.agg #[.slice A X.length c], .agg #[.slice B X.length d]] w fun e w' => e = .returned (.bool true) ∧ Chg NoB w w' := by
  have HC := Lib.hid (((Chg.refl NoB w).alloc (.cells #[.slice A X.length c] 39)).alloc (.cells #[.slice B X.length d] 39))
  have hA := h.lt.new HC.out
  have hB := h'.lt.new HC.out
  go_enter Try.func24, Try.ntmps24
  go_wp2_with fail
  refine (eqIntSS_t _ _ A B c d X _ hA hB hl hX).mono ?_
  rintro e' w' ⟨rfl, m, rfl⟩
  go_wp2
  go_ret
  exact ⟨rfl, HC.out.drewN _⟩

/-- A table whose numbers count on from k. -/
def marksT : List (List Int) → Int → List (List Int)
  | [], _ => []
  | r :: X, k => marksI r.length k :: marksT X (k + r.length)
def lens (X : List (List Int)) : Nat := (X.map List.length).sum
theorem marksT_length (X : List (List Int)) : ∀ k, (marksT X k).length = X.length := by
  induction X with
  | nil => intro k; rfl
  | cons r X ih => intro k; simp [marksT, ih]
theorem marksT_get (X : List (List Int)) : ∀ (k : Int) (j : Nat) (h : j < X.length), (marksT X k)[j]'(by rw [marksT_length]; exact h) = marksI X[j].length (k + (lens (X.take j) : Nat)) := by
  induction X with
  | nil => intro k j h; simp at h
  | cons r X ih =>
    intro k j h
    cases j with
    | zero => simp [marksT, lens]
    | succ j =>
      simp only [marksT, List.getElem_cons_succ]
      rw [ih (k + r.length) j (by simpa using h)]
      simp [lens, Int.add_assoc]
theorem lens_take_succ (X : List (List Int)) (k : Nat) (h : k < X.length) : lens (X.take (k + 1)) = lens (X.take k) + X[k].length := by
  unfold lens; rw [List.take_succ_eq_append_getElem h, List.map_append, List.sum_append]; simp
theorem lens_take_le (X : List (List Int)) (k : Nat) : lens (X.take k) ≤ lens X := by
  unfold lens
  have : (X.map List.length).sum = ((X.take k).map List.length).sum + ((X.drop k).map List.length).sum := by
    rw [← List.sum_append, ← List.map_append, List.take_append_drop]
  omega
theorem lens_row (X : List (List Int)) (k : Nat) (h : k < X.length) : lens (X.take k) + X[k].length ≤ lens X := by
  have := lens_take_succ X k h
  have := lens_take_le X (k + 1)
  omega

theorem rows_mark {T : List RowO} {B E k : Nat} {w w' : World} {rest' : List Value} {ys : List Int} (h : RowsO B E w T) (hk : k < T.length) (hc : Chg (fun i => T[k].g ≤ i ∧ i < T[k].g + 1) w w') (hl : ys.length = T[k].xs.length)
    (hb : Blk w' T[k].g 3 (icells ys ++ rest').toArray) : RowsO B E w' (T.set k ⟨T[k].g, T[k].c, ys, rest'⟩) := by
  have hg : (T.set k ⟨T[k].g, T[k].c, ys, rest'⟩).map (·.g) = T.map (·.g) := by
    rw [List.map_set]
    apply List.ext_getElem?
    intro j
    rw [List.getElem?_set]
    by_cases hj : k = j
    · subst hj; simp [hk]
    · simp [hj]
  refine ⟨fun r hr => ?_, by rw [hg]; exact h.2⟩
  obtain ⟨j, hj, rfl⟩ := List.getElem_of_mem hr
  have hj' : j < T.length := by simpa using hj
  rw [List.getElem_set]
  split
  · have ho := h.1 _ (List.getElem_mem hk)
    exact ⟨ho.1, ho.2.1, hb, by simp only; rw [hl]; exact ho.2.2.2⟩
  · rename_i hne
    refine (h.1 _ (List.getElem_mem hj')).chg hc fun hh => ?_
    have he : T[j].g = T[k].g := by omega
    have := h.2
    rw [List.nodup_iff_pairwise_ne, List.pairwise_iff_getElem] at this
    rcases Nat.lt_or_ge j k with h1 | h1
    · exact this j k (by simpa using hj') (by simpa using hk) h1 (by simpa using he)
    · exact this k j (by simpa using hk) (by simpa using hj') (by omega) (by simpa using he.symm)
set_option maxHeartbeats 1000000 in
theorem markIntS_row (g c : Nat) (xs : List Int) (rest : List Value) (k0 : Int) (w : World) (h : Blk w g 3 (icells xs ++ rest).toArray) (hl : xs.length ≤ 1048576) (hk0 : 0 ≤ k0) (hk1 : k0 ≤ 1000000000000) :
    Calls Try.prog 61 #[.slice (some ⟨g, 0, none⟩) xs.length c, .int .i64 k0] w fun e w' => e = .returned (.int .i64 (k0 + (xs.length : Int))) ∧ Chg (· = g) w w' ∧ Blk w' g 3 (icells (marksI xs.length k0) ++ rest).toArray := by
  go_enter Try.func61, Try.ntmps61
  go_wp2
  go_loopw [1, 5] (fun v i wr => ∃ k : Nat, k ≤ xs.length ∧ i = .int .i64 k ∧ v = .int .i64 (k0 + (k : Int)) ∧ Chg (· = g) w wr ∧ Blk wr g 3 (icells (marksI k k0) ++ (icells (xs.drop k) ++ rest)).toArray) (fun _ i _ => xs.length - (intOf i).toNat)
  case atStart => exact ⟨0, Nat.zero_le _, rfl, by simp, Chg.refl _ _, h⟩
  case round =>
    obtain ⟨k, hk, rfl, rfl, hch, hb⟩ := hrel
    have HC := Lib.hid hch
    by_cases hlt : k < xs.length
    · rw [icells_drop xs k hlt] at hb
      have hlen : (icells (marksI k k0)).length = k := by rw [icells_length, marksI_len]
      have hroom := hb.room hlen
      have hfr := hb.frozen k
      have HF := Lib.hid (hb.fill1 hlen (.int .i64 (k0 + (k : Int))))
      have HS := Lib.hid (marksI_succ k k0)
      have hk8 : (k : Int) ≤ 1048576 := by omega
      clear hb hch hlen
      go_wp2
      go_roundw
      case rel =>
        refine ⟨k + 1, by omega, by go_num, congrArg (Value.int .i64) (by omega), HC.out.setCell (p := ⟨g, k, none⟩) (.inl rfl) _, ?_⟩
        rw [HS.out, List.append_assoc]
        exact HF.out
      case measure => simp [intOf]; omega
    · have hk' : k = xs.length := by omega
      subst hk'
      have HB := Lib.hid hb
      clear hb hch
      go_wp2
      go_ret
      refine ⟨rfl, HC.out, ?_⟩
      have := HB.out
      rwa [List.drop_length] at this
theorem rows_cell {T : List RowO} {k : Nat} {ys : List Int} {rest' : List Value} (hk : k < T.length) (hl : ys.length = T[k].xs.length) : (T.set k ⟨T[k].g, T[k].c, ys, rest'⟩).map RowO.cell = T.map RowO.cell := by
  apply List.ext_getElem?
  intro j
  rw [List.map_set, List.getElem?_set]
  by_cases hj : k = j
  · subst hj; simp [hk, RowO.cell, hl]
  · simp [hj]
theorem rows_lists {T : List RowO} {k : Nat} {r : RowO} : listsOf (T.set k r) = (listsOf T).set k r.xs := by simp [listsOf, List.map_set]
theorem marks_len {T T' : List RowO} (h : T'.map RowO.cell = T.map RowO.cell) : T'.length = T.length := by have := congrArg List.length h; simpa using this
theorem mark_step (X : List (List Int)) (k0 : Int) (k : Nat) (hk : k < X.length) : ((marksT X k0).take k ++ X.drop k).set k (marksI X[k].length (k0 + (lens (X.take k) : Nat))) = (marksT X k0).take (k + 1) ++ X.drop (k + 1) := by
  have hl : ((marksT X k0).take k).length = k := by rw [List.length_take, marksT_length]; omega
  rw [List.set_append_right _ _ (by omega), hl, Nat.sub_self, List.drop_eq_getElem_cons hk, List.set_cons_zero, List.take_succ_eq_append_getElem (by rw [marksT_length]; exact hk), marksT_get X k0 k hk, List.append_assoc]
  rfl
theorem mark_get (X : List (List Int)) (k0 : Int) (k : Nat) (hk : k < X.length) (h : k < ((marksT X k0).take k ++ X.drop k).length) : ((marksT X k0).take k ++ X.drop k)[k] = X[k] := by
  have hl : ((marksT X k0).take k).length = k := by rw [List.length_take, marksT_length]; omega
  rw [List.getElem_append_right (by omega)]
  simp [hl]

set_option maxRecDepth 100000 in
set_option maxHeartbeats 1000000 in
theorem markIntSS_any (B E : Nat) (A : Option Addr) (c : Nat) (T : List RowO) (k0 : Int) (w : World) (h : TabO B E w A c T) (hX : total (listsOf T) ≤ 1048576) (hk0 : 0 ≤ k0) (hk1 : k0 ≤ 100000000) :
    Calls Try.prog 60 #[.slice A T.length c, .int .i64 k0] w fun e w' => ∃ T', e = .returned (.int .i64 (k0 + (lens (listsOf T) : Nat))) ∧ Chg (fun i => B ≤ i ∧ i < E) w w' ∧ listsOf T' = marksT (listsOf T) k0 ∧ T'.length = T.length ∧ TabO B E w' A c T' := by
  obtain ⟨X, hX0⟩ : ∃ X, listsOf T = X := ⟨_, rfl⟩
  have hTX : T.length = X.length := by rw [← hX0, listsOf_length]
  rw [hX0] at hX ⊢
  have hXl : X.length ≤ 1048576 := by unfold total at hX; omega
  rw [hTX]
  have HH := Lib.hid h
  have HX0 := Lib.hid hX0
  have HTX := Lib.hid hTX
  clear h hX0 hTX
  go_enter Try.func60, Try.ntmps60
  go_wp2
  go_loopw [1, 5] (fun v i wr => ∃ (k : Nat) (T' : List RowO), k ≤ X.length ∧ i = .int .i64 k ∧ v = .int .i64 (k0 + (lens (X.take k) : Nat)) ∧ Chg (fun i => B ≤ i ∧ i < E) w wr ∧ Hid (listsOf T' = (marksT X k0).take k ++ X.drop k) ∧ Hid (T'.map RowO.cell = T.map RowO.cell) ∧ TabO B E wr A c T') (fun _ i _ => X.length - (intOf i).toNat)
  case atStart => exact ⟨0, T, Nat.zero_le _, rfl, by simp [lens], Chg.refl _ _, Lib.hid (by simp [HX0.out]), Lib.hid rfl, HH.out⟩
  case round =>
    obtain ⟨k, T', hk, rfl, rfl, hch, hl, hcell, hO⟩ := hrel
    have HC := Lib.hid hch
    have HO := Lib.hid hO
    by_cases hlt : k < X.length
    · have hTk : k < T'.length := by rw [marks_len hcell.out, HTX.out]; exact hlt
      obtain ⟨ad, e1, hf, hbl, hc0⟩ := hO.1.rd.at_ (k := k) (by simpa using hTk)
      subst e1
      rw [List.getElem_map] at hc0
      have hxs : T'[k].xs = X[k] := by
        have h1 : (listsOf T')[k]'(by rw [listsOf_length]; exact hTk) = T'[k].xs := by simp [listsOf]
        rw [← h1]
        have h2 := mark_get X k0 k hlt (by rw [← hl.out, listsOf_length]; exact hTk)
        simp only [hl.out]
        exact h2
      unfold RowO.cell at hc0
      rw [hxs] at hc0
      have hok := hO.2.1 T'[k] (List.getElem_mem hTk)
      have hrowlen : X[k].length ≤ 1048576 := by have := total_row X k hlt; omega
      have hlk := Lib.hid (lens_take_succ X k hlt)
      have hrl := lens_row X k hlt
      have htl : lens X ≤ 1048576 := by unfold total at hX; unfold lens; omega
      have hi0 : (0 : Int) ≤ (k : Int) := Int.natCast_nonneg _
      have hi1 : (k : Int) < (X.length : Int) := by omega
      have HOK := Lib.hid hok
      have HXS := Lib.hid hxs
      clear hO hch hok
      go_wp2_with fail
      have hbk := HOK.out.2.2.1
      rw [HXS.out] at hbk
      refine (markIntS_row T'[k].g T'[k].c X[k] T'[k].rest _ _ hbk hrowlen (by omega) (by omega)).mono ?_
      rintro e w1 ⟨rfl, hc1, hb1⟩
      have hml : (marksI X[k].length (k0 + (lens (X.take k) : Nat))).length = T'[k].xs.length := by rw [marksI_len, HXS.out]
      have hrows := rows_mark (ys := marksI X[k].length (k0 + (lens (X.take k) : Nat))) HO.out.2 hTk (hc1.mono (G := fun i => T'[k].g ≤ i ∧ i < T'[k].g + 1) (fun i _ hi => by omega)) hml hb1
      have hcb : Chg (fun i => B ≤ i ∧ i < E) wr w1 := hc1.mono fun i _ hi => by rw [hi]; exact ⟨HOK.out.1, HOK.out.2.1⟩
      have hcell2 := rows_cell (rest' := T'[k].rest) hTk hml
      have hhd : OwnS B E w1 22 (some ad) T'.length c (T'.map RowO.cell) := by
        refine ⟨HO.out.1.1, ?_⟩
        rcases HO.out.1.2 with h0 | ⟨g, rest, hA, hg, hE, hb⟩
        · exact .inl h0
        · exact .inr ⟨g, rest, hA, hg, hE, hb.chg hc1 (fun he => ty_ne (Blk.ty hbk (by rw [← he]; exact hb)))⟩
      have HN := Lib.hid (show TabO B E w1 (some ad) c (T'.set k ⟨T'[k].g, T'[k].c, marksI X[k].length (k0 + (lens (X.take k) : Nat)), T'[k].rest⟩) from ⟨by rw [List.length_set, hcell2]; exact hhd, hrows⟩)
      have HL2 := Lib.hid (show listsOf (T'.set k ⟨T'[k].g, T'[k].c, marksI X[k].length (k0 + (lens (X.take k) : Nat)), T'[k].rest⟩) = (marksT X k0).take (k + 1) ++ X.drop (k + 1) by rw [rows_lists, hl.out]; exact mark_step X k0 k hlt)
      have HC2 := Lib.hid (hcell2.trans hcell.out)
      have HCB := Lib.hid (HC.out.trans hcb)
      clear hrows hcb hcell2 hhd hc1 hb1 hml hbk hc0
      go_wp2
      go_roundw
      case rel => exact ⟨k + 1, _, by omega, by go_num, by rw [hlk.out]; exact congrArg (Value.int .i64) (by omega), HCB.out, HL2, HC2, HN.out⟩
      case measure => simp [intOf]; omega
    · have hk' : k = X.length := by omega
      subst hk'
      clear hO hch
      go_wp2
      go_ret
      have e1 : listsOf T' = marksT X k0 := by have := hl.out; rwa [List.drop_length, List.append_nil, List.take_of_length_le (by rw [marksT_length]; exact Nat.le_refl _)] at this
      refine ⟨T', ret_int (by rw [List.take_length]), HC.out, e1, ?_, HO.out⟩
      rw [marks_len hcell.out, HTX.out]
set_option maxRecDepth 100000 in
set_option maxHeartbeats 1000000 in
theorem heldIntSS_any (F : Nat → Prop) (A : Option Addr) (c : Nat) (X : List (List Int)) (k0 : Int) (w : World) (h : TabR F w A (marksT X k0)) (hX : total X ≤ 1048576) (hk0 : 0 ≤ k0) (hk1 : k0 ≤ 100000000) :
    Calls Try.prog 65 #[.slice A X.length c, .int .i64 k0] w fun e w' => e = .returned (.int .i64 (k0 + (lens X : Nat))) ∧ w = w' := by
  have hXl : X.length ≤ 1048576 := by unfold total at hX; omega
  have htl : lens X ≤ 1048576 := by unfold total at hX; unfold lens; omega
  go_enter Try.func65, Try.ntmps65
  go_wp2
  go_loop [1, 5] (fun v i => ∃ k : Nat, k ≤ X.length ∧ i = .int .i64 k ∧ v = .int .i64 (k0 + (lens (X.take k) : Nat))) (fun _ i => X.length - (intOf i).toNat)
  case atStart => exact ⟨0, Nat.zero_le _, rfl, by simp [lens]⟩
  case round =>
    obtain ⟨k, hk, rfl, rfl⟩ := hrel
    by_cases hlt : k < X.length
    · obtain ⟨ad, B, c1, rfl, hf, hcell, hr, hc1⟩ := h k (by rw [marksT_length]; exact hlt)
      rw [marksT_get X k0 k hlt] at hcell hr
      rw [marksI_len] at hcell
      have hrowlen : X[k].length ≤ 1048576 := by have := total_row X k hlt; omega
      have hlk := Lib.hid (lens_take_succ X k hlt)
      have hrl := lens_row X k hlt
      have HR := Lib.hid hr
      clear hr hc1
      go_wp2_with fail
      refine (heldIntS_any _ B c1 X[k].length _ _ HR.out hrowlen (by omega) (by omega)).mono ?_
      rintro e w' ⟨rfl, rfl⟩
      have hnn : ¬ (k0 + ((lens (X.take k) : Nat) : Int) + (X[k].length : Int) < 0) := by omega
      go_wp2
      go_round
      case rel => exact ⟨k + 1, by omega, by go_num, by rw [hlk.out]; exact congrArg (Value.int .i64) (by omega)⟩
      case measure => simp [intOf]; omega
    · have hk' : k = X.length := by omega
      subst hk'
      go_wp2
      go_ret
      exact ⟨rfl, rfl⟩
theorem markTable_any (B E : Nat) (A : Option Addr) (c : Nat) (T : List RowO) (k0 : Int) (w : World) (h : TabO B E w A c T) (hX : total (listsOf T) ≤ 1048576) (hk0 : 0 ≤ k0) (hk1 : k0 ≤ 100000000) :
    Calls Try.prog 25 #[.agg #[.slice A T.length c], .int .i64 k0] w fun e w' => ∃ T', e = .returned (.int .i64 (k0 + (lens (listsOf T) : Nat))) ∧ Chg (fun i => B ≤ i ∧ i < E) w w' ∧ listsOf T' = marksT (listsOf T) k0 ∧ T'.length = T.length ∧ TabO B E w' A c T' := by
  have HC := Lib.hid ((Chg.refl NoB w).alloc (.cells #[.slice A T.length c] 39))
  have h1 := h.new HC.out
  clear h
  go_enter Try.func25, Try.ntmps25
  go_wp2_with fail
  refine (markIntSS_any B E A c T k0 _ h1 hX hk0 hk1).mono ?_
  rintro e w1 ⟨T', rfl, hc1, hl, hlen, hO⟩
  go_wp2
  go_ret
  exact ⟨T', rfl, (HC.out.mono (fun _ _ x => x.elim)).trans hc1, hl, hlen, hO⟩
theorem heldTable_any (F : Nat → Prop) (A : Option Addr) (c : Nat) (X : List (List Int)) (k0 : Int) (w : World) (h : TabR F w A (marksT X k0)) (hX : total X ≤ 1048576) (hk0 : 0 ≤ k0) (hk1 : k0 ≤ 100000000) :
    Calls Try.prog 32 #[.agg #[.slice A X.length c], .int .i64 k0] w fun e w' => e = .returned (.int .i64 (k0 + (lens X : Nat))) ∧ Chg NoB w w' := by
  have HC := Lib.hid ((Chg.refl NoB w).alloc (.cells #[.slice A X.length c] 39))
  have h1 := h.lt.new HC.out
  go_enter Try.func32, Try.ntmps32
  go_wp2_with fail
  refine (heldIntSS_any _ A c X k0 _ h1 hX hk0 hk1).mono ?_
  rintro e w' ⟨rfl, rfl⟩
  have hnn : ¬ (k0 + ((lens X : Nat) : Int) < 0) := by omega
  go_wp2
  go_ret
  exact ⟨rfl, HC.out⟩
end Go.Proofs.Ytbgepefdfioljaa
