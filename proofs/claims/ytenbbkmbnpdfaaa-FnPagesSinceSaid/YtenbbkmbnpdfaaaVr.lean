/- NewBlock, NewDevice of the program and of the reference. -/
import Derived.Test.YtenbbkmbnpdfaaaVn
import Derived.Test.YtenbbkmbnpdfaaaVh
import Derived.Test.YtenbbkmbnpdfaaaRb
namespace Go.Proofs.Ytenbbkmbnpdfaaa
open Go.RowKit
theorem chg2 {F : Nat → Prop} {w W : World} {g : Nat} {a b : Value} (h : Chg F w W) (hg : F g ∨ w.heap.size ≤ g) (k : Nat) :
    Chg F w ((W.setCell ⟨g, k, none⟩ a).setCell ⟨g, k + 1, none⟩ b) := (h.setCell (p := ⟨g, k, none⟩) hg _).setCell (p := ⟨g, k + 1, none⟩) hg _
theorem chg2' {F : Nat → Prop} {w W : World} {g : Nat} {a b : Value} (h : Chg F w W) (hg : F g ∨ w.heap.size ≤ g) :
    Chg F w ((W.setCell ⟨g, 0, none⟩ a).setCell ⟨g, 1, none⟩ b) := (h.setCell (p := ⟨g, 0, none⟩) hg _).setCell (p := ⟨g, 1, none⟩) hg _
theorem BksO.chgT {F : Nat → Prop} {w w' : World} {B E : Nat} {T : List BkO} (h : BksO B E w T) (hc : Chg F w w') (hF : ∀ k cs, Blk w k 60 cs → ¬ F k) : BksO B E w' T :=
  ⟨fun r hr => (h.1 r hr).chg hc (hF _ _ (h.1 r hr).2.2.1), h.2⟩
/-- A block is laid behind the others: what append does to the pages. -/
theorem BksO.grown {w w1 w2 : World} {B E B0 n : Nat} {v : Value} {cs : List Value} {T : List BkO} (h : BksO B E w T) (ha : Chg NoB w w1) (ho : w1.ownsRow B0 44 2 v n cs) (hg : w1.grownBy w2 v.ownBlock) (hE : E ≤ w.heap.size) : BksO B w2.heap.size w2 T := by
  have hc := chg_row hg
  exact ((h.new ha).chgT hc (fun k cs hk hh => own_ne_box ho hk (Ne.symm ty_page_block) hh)).more (Nat.le_refl _) (Nat.le_trans hE (Nat.le_trans ha.size hc.size))
theorem bksOf_rep {T : List BkO} {r : BkO} {X : Bk} {k : Nat} (h : bksOf T = List.replicate k X) (hr : r.bk = X) : bksOf (T ++ [r]) = List.replicate (k + 1) X := by
  unfold bksOf at *
  rw [List.map_append, h, List.replicate_succ']
  simp [hr]
/-- The block that a device lies in has as many cells as its capacity says: what append asks for. -/
def Fit (w : World) (A : Option Addr) (c : Nat) (T : List BkO) : Prop := 0 < T.length → c ≤ maxLen ∧ ∃ (g : Nat) (cs : Array Value), A = some ⟨g, 0, none⟩ ∧ Blk w g 44 cs ∧ cs.size = c * 2
def DevQ (B E : Nat) (w : World) (A : Option Addr) (c : Nat) (T : List BkO) : Prop := DevO B E w A c T ∧ Fit w A c T
section
variable {F : Nat → Prop} {w w' : World} {B E B' E' : Nat} {T : List BkO} {A : Option Addr} {c : Nat}
theorem DevQ.blk (h : DevQ B E w A c T) (hT : 0 < T.length) : ∃ g rest, A = some ⟨g, 0, none⟩ ∧ B ≤ g ∧ g < E ∧ Blk w g 44 (bcells T ++ rest).toArray := by
  rcases h.1.1.2 with ⟨h0, _⟩ | h1
  · omega
  · exact h1
theorem DevQ.chg (h : DevQ B E w A c T) (hc : Chg F w w') (hf : ∀ i, B ≤ i → i < E → ¬ F i) : DevQ B E w' A c T := by
  refine ⟨h.1.chg hc hf, fun hT => ?_⟩
  obtain ⟨g', rest, e1, hg, hE, -⟩ := h.blk hT
  obtain ⟨hm, g, cs, e, hb, hs⟩ := h.2 hT
  rw [e] at e1
  injection e1 with e1
  injection e1 with e1
  exact ⟨hm, g, cs, e, hb.chg hc (hf g (by omega) (by omega)), hs⟩
theorem DevQ.new (h : DevQ B E w A c T) (hc : Chg NoB w w') : DevQ B E w' A c T := h.chg hc fun _ _ _ x => x
theorem DevQ.more (h : DevQ B E w A c T) (hB : B' ≤ B) (hE : E ≤ E') : DevQ B' E' w A c T := ⟨h.1.more hB hE, h.2⟩
theorem DevQ.nil (B E : Nat) (w : World) (A : Option Addr) (c : Nat) : DevQ B E w A c [] := ⟨DevO.nil _ _ _ _ _, fun h => absurd h (by simp)⟩
theorem DevQ.reads (h : DevQ B E w A c T) : DevR (fun i => B ≤ i ∧ i < E) w A (bksOf T) := h.1.reads
theorem DevQ.of_blk {g : Nat} (hb : Blk w g 44 (bcells T).toArray) (hR : BksO B E w T) (hg : B ≤ g) (hE : g < E) (hc : T.length = c) (hm : c ≤ maxLen) : DevQ B E w (some ⟨g, 0, none⟩) c T :=
  ⟨⟨OwnS.of_blk hb hg hE (by omega), hR⟩, fun _ => ⟨hm, g, _, rfl, hb, by rw [List.size_toArray, bcells_length, hc]⟩⟩
theorem DevQ.of_row {v : Value} {n : Nat} (h : w.ownsRow B 44 2 v n (bcells T)) (hn : T.length = n) (hR : BksO B w.heap.size w T) : ∃ A c, v = .slice A n c ∧ DevQ B w.heap.size w A c T := by
  obtain ⟨A, c, hv, hO⟩ := OwnS.of_row h
  refine ⟨A, c, hv, ⟨by rw [hn]; exact hO, hR⟩, fun hT => ?_⟩
  rcases h.2 with ⟨_, h0⟩ | ⟨g, cap, cur, he, hb, hg, hc1, hc2, hs, ht⟩
  · omega
  · rw [he] at hv
    injection hv with e1 e2 e3
    subst e1 e3
    exact ⟨hc2, g, cur, rfl, hg, hs⟩
theorem DevQ.own (h : DevQ B E w A c T) (hT : 0 < T.length) : w.ownsRow B 44 2 (.slice A T.length c) T.length (bcells T) := by
  obtain ⟨g', rest, e1, hg, hE, hb'⟩ := h.blk hT
  obtain ⟨hm, g, cs, e, hb, hs⟩ := h.2 hT
  subst e1
  injection e with e
  injection e with e
  subst e
  refine ⟨bcells_length T, .inr ⟨g', c, cs, rfl, hg, hb, h.1.1.1, hm, hs, ?_⟩⟩
  unfold Blk at hb hb'
  rw [hb'] at hb
  injection hb with hb
  injection hb with hb
  rw [← hb, ← bcells_length T]
  exact List.take_left
end
/-- A block that a call has laid anew, its four pages too. -/
def NewBP (w : World) (x : Int) (ps : List Pg) (e : Ending) (w' : World) : Prop :=
  ∃ g c rest, e = .returned (.agg #[.int .i64 x, .slice (some ⟨g, 0, none⟩) 4 c]) ∧ ps.length = 4 ∧ BkO.ok w.heap.size w'.heap.size w' ⟨g, c, x, ps, rest⟩ ∧ Chg NoB w w'
def DevP (w : World) (D : List Bk) (e : Ending) (w' : World) : Prop :=
  ∃ A c T, e = .returned (.slice A D.length c) ∧ bksOf T = D ∧ DevQ w.heap.size w'.heap.size w' A c T ∧ Chg NoB w w'
theorem newBlock_ok {n : Int} (h : 0 ≤ n ∧ n ≤ 100) : newBlock n = ⟨n, List.replicate 4 zPg⟩ := if_pos h
set_option maxRecDepth 100000 in
set_option maxHeartbeats 1000000 in
theorem iNewBlock_any (n : Int) (w : World) (h : 0 ≤ n ∧ n ≤ 100) : Calls Try.prog 55 #[.int .i64 n] w (NewBP w n (List.replicate 4 zPg)) := by
  obtain ⟨i0, hi, hz0, hz1, hz2⟩ := info_parts info_page
  have hmk : ∀ W, (Instr.makeSlice 42 (.int .i64 4) (.int .i64 4)).run Try.prog W = .ok (.slice (some ⟨W.heap.size, 0, none⟩) 4 4) (W.alloc (.cells (reps 4 (pcells zPg)).toArray 60)) :=
    fun W => run_make_reps (P := Try.prog) 42 60 i0 _ (pcells zPg) Try.underlying42 hi hz0 rfl hz1 4 (by rw [hz2]; omega) (by omega) W
  have n1 : ¬ (n < 0) := by omega
  have n2 : ¬ (100 < n) := by omega
  have hr := Blk.new w 44 #[.int .i64 0, .slice none 0 0]
  go_enter Try.func55, Try.ntmps55
  obtain ⟨q1, q2, q3⟩ := lit2 w 44 60 #[.int .i64 0, .slice none 0 0] (reps 4 (pcells zPg)).toArray
  have x0 : ((w.alloc (.cells #[.int .i64 0, .slice none 0 0] 44)).alloc (.cells (reps 4 (pcells zPg)).toArray 60)).cell? ⟨w.heap.size, 0, none⟩ = some (.int .i64 0) := (q1.cell _).trans rfl
  have f0 := q1.frozen 0
  have x1 : ((w.alloc (.cells #[.int .i64 0, .slice none 0 0] 44)).alloc (.cells (reps 4 (pcells zPg)).toArray 60)).cell? ⟨w.heap.size, 1, none⟩ = some (.slice none 0 0) := (q1.cell _).trans rfl
  have f1 := q1.frozen 1
  clear q1 q2 q3
  go_wp2
  (try simp only [Exit.inBlock, Exit.then])
  refine bodyPost_ret (v := .agg #[.int .i64 n, .slice (some ⟨w.heap.size + 1, 0, none⟩) 4 4]) (by simp [results, Try.results55, go_sem, *]) rfl ?_
  obtain ⟨-, hb, hcs⟩ := lit2 w 44 60 #[.int .i64 n, .slice (some ⟨w.heap.size + 1, 0, none⟩) 4 4] (reps 4 (pcells zPg)).toArray
  refine ⟨w.heap.size + 1, 4, [], rfl, rfl, ⟨Nat.le_succ _, hb.lt, ?_, Nat.le_refl _⟩, hcs⟩
  show Blk _ _ _ (reps 4 (pcells zPg)).toArray
  exact hb
set_option maxRecDepth 100000 in
set_option maxHeartbeats 1000000 in
theorem sNewBlock_any (n : Int) (w : World) (h : 0 ≤ n ∧ n ≤ 100) : Calls Try.prog 57 #[.int .i64 n] w (NewBP w n (List.replicate 4 zPg)) := by
  obtain ⟨i0, hi, hz0, hz1, hz2⟩ := info_parts info_page
  have hmk : ∀ W, (Instr.makeSlice 42 (.int .i64 4) (.int .i64 4)).run Try.prog W = .ok (.slice (some ⟨W.heap.size, 0, none⟩) 4 4) (W.alloc (.cells (reps 4 (pcells zPg)).toArray 60)) :=
    fun W => run_make_reps (P := Try.prog) 42 60 i0 _ (pcells zPg) Try.underlying42 hi hz0 rfl hz1 4 (by rw [hz2]; omega) (by omega) W
  have n1 : ¬ (n < 0) := by omega
  have n2 : ¬ (100 < n) := by omega
  have hr := Blk.new w 44 #[.int .i64 0, .slice none 0 0]
  go_enter Try.func57, Try.ntmps57
  go_wp2_with fail
  refine (l1In_t n 0 100 _ h).mono ?_
  rintro e w1 ⟨rfl, rfl⟩
  obtain ⟨q1, q2, q3⟩ := lit2 w 44 60 #[.int .i64 0, .slice none 0 0] (reps 4 (pcells zPg)).toArray
  have x0 : ((w.alloc (.cells #[.int .i64 0, .slice none 0 0] 44)).alloc (.cells (reps 4 (pcells zPg)).toArray 60)).cell? ⟨w.heap.size, 0, none⟩ = some (.int .i64 0) := (q1.cell _).trans rfl
  have f0 := q1.frozen 0
  have x1 : ((w.alloc (.cells #[.int .i64 0, .slice none 0 0] 44)).alloc (.cells (reps 4 (pcells zPg)).toArray 60)).cell? ⟨w.heap.size, 1, none⟩ = some (.slice none 0 0) := (q1.cell _).trans rfl
  have f1 := q1.frozen 1
  clear q1 q2 q3
  go_wp2
  (try simp only [Exit.inBlock, Exit.then])
  refine bodyPost_ret (v := .agg #[.int .i64 n, .slice (some ⟨w.heap.size + 1, 0, none⟩) 4 4]) (by simp [results, Try.results57, go_sem, *]) rfl ?_
  obtain ⟨-, hb, hcs⟩ := lit2 w 44 60 #[.int .i64 n, .slice (some ⟨w.heap.size + 1, 0, none⟩) 4 4] (reps 4 (pcells zPg)).toArray
  refine ⟨w.heap.size + 1, 4, [], rfl, rfl, ⟨Nat.le_succ _, hb.lt, ?_, Nat.le_refl _⟩, hcs⟩
  show Blk _ _ _ (reps 4 (pcells zPg)).toArray
  exact hb
theorem newDevice_ok {n : Int} (h : 1 ≤ n ∧ n ≤ 12) : newDevice n = List.replicate n.toNat (newBlock 0) := if_pos h
theorem newDevice_no {n : Int} (h : ¬ (1 ≤ n ∧ n ≤ 12)) : newDevice n = [] := if_neg h
theorem pgs_reps4 : (pgs (List.replicate 4 zPg)).length = 20 := by rw [pgs_length]; simp
set_option maxRecDepth 100000 in
set_option maxHeartbeats 2000000 in
theorem iNewDevice_any (z : Int) (w : World) : Calls Try.prog 16 #[.int .i64 z] w (DevP w (newDevice z)) := by
  by_cases h1 : z < 1
  · rw [newDevice_no (by omega)]
    go_enter Try.func16, Try.ntmps16
    go_wp2
    go_ret
    exact ⟨none, 0, [], rfl, rfl, DevQ.nil _ _ _ _ _, Chg.refl _ _⟩
  by_cases h2 : 12 < z
  · rw [newDevice_no (by omega)]
    go_enter Try.func16, Try.ntmps16
    go_wp2
    go_ret
    exact ⟨none, 0, [], rfl, rfl, DevQ.nil _ _ _ _ _, Chg.refl _ _⟩
  obtain ⟨n, rfl⟩ := Int.eq_ofNat_of_zero_le (show 0 ≤ z by omega)
  rw [newDevice_ok (by omega), newBlock_ok (by omega), show ((n : Int)).toNat = n from rfl]
  obtain ⟨i0, hi, hz0, hz1, hz2⟩ := info_parts info_block
  have hmk := fun W => run_make_reps (P := Try.prog) 24 44 i0 _ [.int .i64 0, .slice none 0 0] Try.underlying24 hi hz0 rfl hz1 n (by rw [hz2]; omega) (by omega) W
  go_enter Try.func16, Try.ntmps16
  go_wp2
  go_loopw [15] (fun i wr => ∃ (k : Nat) (T : List BkO), k ≤ n ∧ i = .int .i64 k ∧ Chg NoB w wr ∧ Hid (bksOf T = List.replicate k ⟨0, List.replicate 4 zPg⟩) ∧ BksO (w.heap.size + 1) wr.heap.size wr T ∧ Blk wr w.heap.size 44 (bcells T ++ reps (n - k) [.int .i64 0, .slice none 0 0]).toArray) (fun i _ => n - (intOf i).toNat)
  case atStart => exact ⟨0, [], Nat.zero_le _, rfl, (Chg.refl _ _).alloc _, Lib.hid rfl, BksO.nil _ _ _, Blk.new _ _ _⟩
  case round =>
    obtain ⟨k, T, hk, rfl, hch, hT, hrows, hb⟩ := hrel
    have hTl : T.length = k := by have := congrArg List.length hT.out; rw [bksOf_length, List.length_replicate] at this; omega
    by_cases hlt : k < n
    · have hi0 : (0 : Int) ≤ (k : Int) := Int.natCast_nonneg _
      have hi1 : (k : Int) < (n : Int) := by omega
      have HC := Lib.hid hch
      have HB := Lib.hid hb
      have HR := Lib.hid hrows
      have HTL := Lib.hid hTl
      clear hch hb hrows hTl
      go_wp2_with fail
      refine (iNewBlock_any 0 _ (by omega)).mono ?_
      rintro e w1 ⟨g1, c1, rest1, rfl, h4, hok1, hc2⟩
      have hb2 := HB.out.chg hc2 (fun x => x)
      obtain ⟨r, hr⟩ : ∃ r, n - k = r + 1 := ⟨n - k - 1, by omega⟩
      have hr1 : n - (k + 1) = r := by omega
      rw [hr, reps_succ] at hb2
      have hlenT : (bcells T).length = k * 2 := by rw [bcells_length, HTL.out]
      obtain ⟨x0, x1⟩ := hb2.room2 hlenT
      have f0 := hb2.frozen (k * 2)
      have f1 := hb2.frozen (k * 2 + 1)
      have hsz := HC.out.size
      have hws := HB.out.lt
      have HF := Lib.hid (hb2.fill2 hlenT (.int .i64 0) (.slice (some ⟨g1, 0, none⟩) 4 c1))
      have hcs := chg2 (F := (· = w.heap.size)) (a := .int .i64 0) (b := .slice (some ⟨g1, 0, none⟩) 4 c1) (Chg.refl (· = w.heap.size) w1) (.inl rfl) (k * 2)
      have hg1 := hok1.1
      have hok := hok1.more (show w.heap.size + 1 ≤ wr.heap.size by omega) (Nat.le_refl _)
      have hsz1 : ((w1.setCell ⟨w.heap.size, k * 2, none⟩ (.int .i64 0)).setCell ⟨w.heap.size, k * 2 + 1, none⟩ (.slice (some ⟨g1, 0, none⟩) 4 c1)).heap.size = w1.heap.size := by simp [World.setCell]
      have HRW := Lib.hid (((HR.out.new hc2).snoc hok hg1).chg hcs (fun i h1 h2 => by omega))
      have HCW := Lib.hid ((HC.out.trans hc2).trans' hcs (fun i hi => .inr (by omega)))
      have HSZ := Lib.hid hsz1
      have HL := Lib.hid (show bksOf (T ++ [⟨g1, c1, 0, List.replicate 4 zPg, rest1⟩]) = List.replicate (k + 1) ⟨0, List.replicate 4 zPg⟩ from bksOf_rep hT.out rfl)
      have HR1 := Lib.hid hr1
      clear hr hr1 hlenT hb2 hok hok1 hcs hsz1 hc2 hg1
      go_wp2
      go_roundw
      case rel =>
        refine ⟨k + 1, T ++ [⟨g1, c1, 0, List.replicate 4 zPg, rest1⟩], by omega, by go_num, HCW.out, HL, by rw [HSZ.out]; exact HRW.out, ?_⟩
        rw [HR1.out, bcells_snoc, List.append_assoc]
        exact HF.out
      case measure => simp [intOf]; omega
    · obtain rfl : k = n := by omega
      have HB := Lib.hid hb
      have HC := Lib.hid hch
      have HR := Lib.hid hrows
      clear hb hch hrows
      go_wp2
      go_ret
      refine ⟨some ⟨w.heap.size, 0, none⟩, k, T, by rw [List.length_replicate]; rfl, hT.out, ?_, HC.out⟩
      have hb := HB.out
      rw [Nat.sub_self, reps_zero, List.append_nil] at hb
      exact DevQ.of_blk hb (HR.out.more (by omega) (Nat.le_refl _)) (Nat.le_refl _) hb.lt hTl (by unfold maxLen; omega)
set_option maxRecDepth 100000 in
set_option maxHeartbeats 2000000 in
theorem sNewDevice_any (z : Int) (w : World) : Calls Try.prog 18 #[.int .i64 z] w (DevP w (newDevice z)) := by
  obtain ⟨i0, hi, hz0, hz1, hz2⟩ := info_parts info_block
  have HE := Lib.hid (own_empty w 44 2 w.heap.size (Nat.le_refl _))
  by_cases h1 : 1 ≤ z
  case neg =>
    rw [newDevice_no (by omega)]
    have h1' : ¬ (0 < z) := by omega
    go_enter Try.func18, Try.ntmps18
    go_wp2
    go_loopw [3, 4] (fun v i wr => v = .slice (some ⟨w.heap.size, 0, none⟩) 0 0 ∧ i = .int .i64 0 ∧ wr = w.alloc (.cells #[] 44)) (fun _ i _ => 0)
    case atStart => exact ⟨rfl, rfl, rfl⟩
    case round =>
      obtain ⟨rfl, rfl, rfl⟩ := hrel
      go_wp2
      go_ret
      exact ⟨_, _, [], rfl, rfl, DevQ.nil _ _ _ _ _, (Chg.refl _ _).alloc _⟩
  obtain ⟨n, rfl⟩ := Int.eq_ofNat_of_zero_le (show 0 ≤ z by omega)
  go_enter Try.func18, Try.ntmps18
  go_wp2
  go_loopw [3, 4] (fun v i wr => ∃ (k : Nat) (T : List BkO), k ≤ n ∧ (0 < k → n ≤ 12) ∧ i = .int .i64 k ∧ Chg NoB w wr ∧ Hid (bksOf T = List.replicate k ⟨0, List.replicate 4 zPg⟩) ∧ BksO w.heap.size wr.heap.size wr T ∧ wr.ownsRow w.heap.size 44 2 v k (bcells T)) (fun _ i _ => n - (intOf i).toNat)
  case atStart => exact ⟨0, [], Nat.zero_le _, by omega, rfl, (Chg.refl _ _).alloc _, Lib.hid rfl, BksO.nil _ _ _, HE.out⟩
  case round =>
    obtain ⟨wo, rfl⟩ : ∃ wo, wo = wr := ⟨_, rfl⟩
    obtain ⟨k, T, hk, hk12, rfl, hch, hT, hrows, how⟩ := hrel
    have hTl : T.length = k := by have := congrArg List.length hT.out; rw [bksOf_length, List.length_replicate] at this; omega
    have HC := Lib.hid hch
    have HO := Lib.hid how
    have HR := Lib.hid hrows
    have HTL := Lib.hid hTl
    clear hch how hrows hTl
    by_cases hlt : k < n
    · have hi0 : (0 : Int) ≤ (k : Int) := Int.natCast_nonneg _
      have hi1 : (k : Int) < (n : Int) := by omega
      by_cases h12 : n ≤ 12
      case neg =>
        obtain rfl : k = 0 := by rcases Nat.eq_zero_or_pos k with h | h; exact h; exact absurd (hk12 h) h12
        obtain ⟨A, c, rfl, -, -⟩ := own_rd HO.out
        go_wp2_with fail
        refine (l1In_f n 1 12 _ (by omega)).mono ?_
        rintro e w1 ⟨rfl, rfl⟩
        go_wp2
        go_ret
        rw [newDevice_no (by omega)]
        exact ⟨A, c, [], rfl, rfl, DevQ.nil _ _ _ _ _, HC.out⟩
      go_wp2_with fail
      refine (l1In_t n 1 12 _ (by omega)).mono ?_
      rintro e w1 ⟨rfl, rfl⟩
      go_wp2_with fail
      refine (sNewBlock_any 0 _ (by omega)).mono ?_
      rintro e w2 ⟨g1, c1, rest1, rfl, h4, hok1, hc2⟩
      have hO2 := own_chg HO.out hc2 (fun _ _ x => x)
      have hR2 := HR.out.new hc2
      have HOK := Lib.hid hok1
      have HC2 := Lib.hid (HC.out.trans hc2)
      have HO2 := Lib.hid hO2
      have HR2 := Lib.hid hR2
      have hsz := HC.out.size
      have hsz2 := HC2.out.size
      have HL := Lib.hid (show bksOf (T ++ [⟨g1, c1, 0, List.replicate 4 zPg, rest1⟩]) = List.replicate (k + 1) ⟨0, List.replicate 4 zPg⟩ from bksOf_rep hT.out rfl)
      clear hok1 hO2 hR2 hc2
      go_wp2_with (at_builtin; refine wpList_append_own _ rfl (.tmp 15) (.tmp 17) _ rfl w.heap.size 44 i0 (.agg #[.int .i64 0, .slice none 0 0]) 2 32 Try.underlying24 hi hz0 hz1 hz2 rfl (by decide) _ _ _ rfl (HO2.out.alloc _) ⟨w2.heap.size, 0, none⟩ 1 1 [.int .i64 0, .slice (some ⟨g1, 0, none⟩) 4 c1] rfl rfl (cells_new _ _ _) (by simp [Value.oneCell']) (by simp only [maxLen]; omega) (by omega) (by simp; omega) ?_; intro v' w5 hown' hgrow _)
      go_roundw
      case rel =>
        refine ⟨k + 1, T ++ [⟨g1, c1, 0, List.replicate 4 zPg, rest1⟩], by omega, fun _ => h12, by go_num, chg_grown (HO2.out.alloc _) hgrow (HC2.out.alloc _) (Nat.le_refl _), HL, ?_, ?_⟩
        · exact ((HR2.out.snoc (HOK.out.more hsz (Nat.le_refl _)) HOK.out.1).grown ((Chg.refl NoB w2).alloc _) (HO2.out.alloc _) hgrow (Nat.le_refl _))
        · rw [bcells_snoc]; exact hown'
      case measure => simp [intOf]; omega
    · obtain rfl : k = n := by omega
      by_cases h12 : k ≤ 12
      case neg => exact absurd (hk12 (by omega)) h12
      go_wp2_with fail
      go_ret
      obtain ⟨A, c, rfl, hO⟩ := DevQ.of_row HO.out HTL.out HR.out
      rw [newDevice_ok (by omega), newBlock_ok (by omega), show ((k : Int)).toNat = k from rfl]
      refine ⟨A, c, T, by rw [List.length_replicate]; rfl, hT.out, hO, HC.out⟩
theorem newBk_ok : BkOk ⟨0, List.replicate 4 zPg⟩ := ⟨⟨by show (0 : Int) ≤ 0; omega, by show (0 : Int) ≤ 100; omega⟩, by simp, fun k hk => ⟨by simp only [List.getElem_replicate]; exact PgOk.zero, fun _ hf => by simp only [List.getElem_replicate] at hf; cases hf⟩⟩
theorem newDv_len {n : Nat} (h : 1 ≤ n ∧ n ≤ 12) : (newDevice n).length = n := by rw [newDevice_ok (by omega)]; simp
theorem newDv_get {n : Nat} (h : 1 ≤ n ∧ n ≤ 12) (k : Nat) (hk : k < n) : (newDevice n).getD k zBk = ⟨0, List.replicate 4 zPg⟩ := by
  rw [newDevice_ok (by omega), newBlock_ok (by omega), List.getD_eq_getElem?_getD, List.getElem?_replicate, if_pos (by simpa using hk)]
  rfl
theorem newDv_ok {n : Nat} (h : 1 ≤ n ∧ n ≤ 12) : DvOk (newDevice n) := by
  refine ⟨by rw [newDv_len h]; exact h, fun k hk => ?_⟩
  have := newDv_get h k (by rw [newDv_len h] at hk; exact hk)
  rw [List.getD_eq_getElem?_getD, List.getElem?_eq_getElem hk, Option.getD_some] at this
  rw [this]
  exact newBk_ok
end Go.Proofs.Ytenbbkmbnpdfaaa
