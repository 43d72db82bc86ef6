/- Parts of the proof, merged: Vr, Vt, Vu, Vx, Vy, Vl, Vz, Uw, Vw. -/
import Derived.Test.YtpiojofmflfkkaaJb
import Derived.Test.YtpiojofmflfkkaaJa
import Derived.Deep.RegionHeld3
import Derived.Maps.AppendAt
/- NewBlock, NewDevice of the program and of the reference. -/
namespace Go.Proofs.Ytpiojofmflfkkaa
open Go.RowKit
theorem chg2 {F : Nat → Prop} {w W : World} {g : Nat} {a b : Value} (h : Chg F w W) (hg : F g ∨ w.heap.size ≤ g) (k : Nat) :
    Chg F w ((W.setCell ⟨g, k, none⟩ a).setCell ⟨g, k + 1, none⟩ b) := (h.setCell (p := ⟨g, k, none⟩) hg _).setCell (p := ⟨g, k + 1, none⟩) hg _
theorem chg2' {F : Nat → Prop} {w W : World} {g : Nat} {a b : Value} (h : Chg F w W) (hg : F g ∨ w.heap.size ≤ g) :
    Chg F w ((W.setCell ⟨g, 0, none⟩ a).setCell ⟨g, 1, none⟩ b) := (h.setCell (p := ⟨g, 0, none⟩) hg _).setCell (p := ⟨g, 1, none⟩) hg _
theorem BksO.chgT {F : Nat → Prop} {w w' : World} {B E : Nat} {T : List BkO} (h : BksO B E w T) (hc : Chg F w w') (hF : ∀ k cs, Blk w k 80 cs → ¬ F k) : BksO B E w' T :=
  ⟨fun r hr => (h.1 r hr).chg hc (hF _ _ (h.1 r hr).2.2.1), h.2⟩
/-- A block is laid behind the others: what append does to the pages. -/
theorem BksO.grown {w w1 w2 : World} {B E B0 n : Nat} {v : Value} {cs : List Value} {T : List BkO} (h : BksO B E w T) (ha : Chg NoB w w1) (ho : w1.ownsRow B0 67 2 v n cs) (hg : w1.grownBy w2 v.ownBlock) (hE : E ≤ w.heap.size) : BksO B w2.heap.size w2 T := by
  have hc := chg_row hg
  exact ((h.new ha).chgT hc (fun k cs hk hh => own_ne_box ho hk (Ne.symm ty_page_block) hh)).more (Nat.le_refl _) (Nat.le_trans hE (Nat.le_trans ha.size hc.size))
theorem bksOf_rep {T : List BkO} {r : BkO} {X : Bk} {k : Nat} (h : bksOf T = List.replicate k X) (hr : r.bk = X) : bksOf (T ++ [r]) = List.replicate (k + 1) X := by
  unfold bksOf at *
  rw [List.map_append, h, List.replicate_succ']
  simp [hr]
/-- The block that a device lies in has as many cells as its capacity says: what append asks for. -/
def Fit (w : World) (A : Option Addr) (c : Nat) (T : List BkO) : Prop := 0 < T.length → c ≤ maxLen ∧ ∃ (g : Nat) (cs : Array Value), A = some ⟨g, 0, none⟩ ∧ Blk w g 67 cs ∧ cs.size = c * 2
def DevQ (B E : Nat) (w : World) (A : Option Addr) (c : Nat) (T : List BkO) : Prop := DevO B E w A c T ∧ Fit w A c T
section
variable {F : Nat → Prop} {w w' : World} {B E B' E' : Nat} {T : List BkO} {A : Option Addr} {c : Nat}
theorem DevQ.blk (h : DevQ B E w A c T) (hT : 0 < T.length) : ∃ g rest, A = some ⟨g, 0, none⟩ ∧ B ≤ g ∧ g < E ∧ Blk w g 67 (bcells T ++ rest).toArray := by
  rcases h.1.1.2 with ⟨h0, _⟩ | h1
  · omega
  · exact h1
theorem DevQ.chg (h : DevQ B E w A c T) (hc : Chg F w w') (hf : ∀ i, B ≤ i → i < E → ¬ F i) : DevQ B E w' A c T := by
  refine ⟨h.1.chg hc hf, fun hT => ?_⟩
  obtain ⟨g', rest, e1, hg, hE, -⟩ := h.blk hT
  obtain ⟨hm, g, cs, e, hb, hs⟩ := h.2 hT
  rw [e] at e1
  injection e1 with e1
  injection e1 with e1
  exact ⟨hm, g, cs, e, hb.chg hc (hf g (by omega) (by omega)), hs⟩
theorem DevQ.new (h : DevQ B E w A c T) (hc : Chg NoB w w') : DevQ B E w' A c T := h.chg hc fun _ _ _ x => x
theorem DevQ.more (h : DevQ B E w A c T) (hB : B' ≤ B) (hE : E ≤ E') : DevQ B' E' w A c T := ⟨h.1.more hB hE, h.2⟩
theorem DevQ.nil (B E : Nat) (w : World) (A : Option Addr) (c : Nat) : DevQ B E w A c [] := ⟨DevO.nil _ _ _ _ _, fun h => absurd h (by simp)⟩
theorem DevQ.reads (h : DevQ B E w A c T) : DevR (fun i => B ≤ i ∧ i < E) w A (bksOf T) := h.1.reads
theorem DevQ.of_blk {g : Nat} (hb : Blk w g 67 (bcells T).toArray) (hR : BksO B E w T) (hg : B ≤ g) (hE : g < E) (hc : T.length = c) (hm : c ≤ maxLen) : DevQ B E w (some ⟨g, 0, none⟩) c T :=
  ⟨⟨OwnS.of_blk hb hg hE (by omega), hR⟩, fun _ => ⟨hm, g, _, rfl, hb, by rw [List.size_toArray, bcells_length, hc]⟩⟩
theorem DevQ.of_row {v : Value} {n : Nat} (h : w.ownsRow B 67 2 v n (bcells T)) (hn : T.length = n) (hR : BksO B w.heap.size w T) : ∃ A c, v = .slice A n c ∧ DevQ B w.heap.size w A c T := by
  obtain ⟨A, c, hv, hO⟩ := OwnS.of_row h
  refine ⟨A, c, hv, ⟨by rw [hn]; exact hO, hR⟩, fun hT => ?_⟩
  rcases h.2 with ⟨_, h0⟩ | ⟨g, cap, cur, he, hb, hg, hc1, hc2, hs, ht⟩
  · omega
  · rw [he] at hv
    injection hv with e1 e2 e3
    subst e1 e3
    exact ⟨hc2, g, cur, rfl, hg, hs⟩
theorem DevQ.own (h : DevQ B E w A c T) (hT : 0 < T.length) : w.ownsRow B 67 2 (.slice A T.length c) T.length (bcells T) := by
  obtain ⟨g', rest, e1, hg, hE, hb'⟩ := h.blk hT
  obtain ⟨hm, g, cs, e, hb, hs⟩ := h.2 hT
  subst e1
  injection e with e
  injection e with e
  subst e
  refine ⟨bcells_length T, .inr ⟨g', c, cs, rfl, hg, hb, h.1.1.1, hm, hs, ?_⟩⟩
  unfold Blk at hb hb'
  rw [hb'] at hb
  injection hb with hb
  injection hb with hb
  rw [← hb, ← bcells_length T]
  exact List.take_left
end
/-- A block that a call has laid anew, its four pages too. -/
def NewBP (w : World) (x : Int) (ps : List Pg) (e : Ending) (w' : World) : Prop :=
  ∃ g c rest, e = .returned (.agg #[.int .i64 x, .slice (some ⟨g, 0, none⟩) 4 c]) ∧ ps.length = 4 ∧ BkO.ok w.heap.size w'.heap.size w' ⟨g, c, x, ps, rest⟩ ∧ Chg NoB w w'
def DevP (w : World) (D : List Bk) (e : Ending) (w' : World) : Prop :=
  ∃ A c T, e = .returned (.slice A D.length c) ∧ bksOf T = D ∧ DevQ w.heap.size w'.heap.size w' A c T ∧ Chg NoB w w'
theorem newBlock_ok {n : Int} (h : 0 ≤ n ∧ n ≤ 100) : newBlock n = ⟨n, List.replicate 4 zPg⟩ := if_pos h
set_option maxRecDepth 100000 in
set_option maxHeartbeats 1000000 in
theorem iNewBlock_any (n : Int) (w : World) (h : 0 ≤ n ∧ n ≤ 100) : Calls Try.prog 152 #[.int .i64 n] w (NewBP w n (List.replicate 4 zPg)) := by
  obtain ⟨i0, hi, hz0, hz1, hz2⟩ := info_parts info_page
  have hmk : ∀ W, (Instr.makeSlice 65 (.int .i64 4) (.int .i64 4)).run Try.prog W = .ok (.slice (some ⟨W.heap.size, 0, none⟩) 4 4) (W.alloc (.cells (reps 4 (pcells zPg)).toArray 80)) :=
    fun W => run_make_reps (P := Try.prog) 65 80 i0 _ (pcells zPg) Try.underlying65 hi hz0 rfl hz1 4 (by rw [hz2]; omega) (by omega) W
  have n1 : ¬ (n < 0) := by omega
  have n2 : ¬ (100 < n) := by omega
  have hr := Blk.new w 67 #[.int .i64 0, .slice none 0 0]
  go_enter Try.func152, Try.ntmps152
  obtain ⟨q1, q2, q3⟩ := lit2 w 67 80 #[.int .i64 0, .slice none 0 0] (reps 4 (pcells zPg)).toArray
  have x0 : ((w.alloc (.cells #[.int .i64 0, .slice none 0 0] 67)).alloc (.cells (reps 4 (pcells zPg)).toArray 80)).cell? ⟨w.heap.size, 0, none⟩ = some (.int .i64 0) := (q1.cell _).trans rfl
  have f0 := q1.frozen 0
  have x1 : ((w.alloc (.cells #[.int .i64 0, .slice none 0 0] 67)).alloc (.cells (reps 4 (pcells zPg)).toArray 80)).cell? ⟨w.heap.size, 1, none⟩ = some (.slice none 0 0) := (q1.cell _).trans rfl
  have f1 := q1.frozen 1
  clear q1 q2 q3
  go_wp2
  (try simp only [Exit.inBlock, Exit.then])
  refine bodyPost_ret (v := .agg #[.int .i64 n, .slice (some ⟨w.heap.size + 1, 0, none⟩) 4 4]) (by simp [results, Try.results152, go_sem, *]) rfl ?_
  obtain ⟨-, hb, hcs⟩ := lit2 w 67 80 #[.int .i64 n, .slice (some ⟨w.heap.size + 1, 0, none⟩) 4 4] (reps 4 (pcells zPg)).toArray
  refine ⟨w.heap.size + 1, 4, [], rfl, rfl, ⟨Nat.le_succ _, hb.lt, ?_, Nat.le_refl _⟩, hcs⟩
  show Blk _ _ _ (reps 4 (pcells zPg)).toArray
  exact hb
set_option maxRecDepth 100000 in
set_option maxHeartbeats 1000000 in
theorem sNewBlock_any (n : Int) (w : World) (h : 0 ≤ n ∧ n ≤ 100) : Calls Try.prog 122 #[.int .i64 n] w (NewBP w n (List.replicate 4 zPg)) := by
  obtain ⟨i0, hi, hz0, hz1, hz2⟩ := info_parts info_page
  have hmk : ∀ W, (Instr.makeSlice 65 (.int .i64 4) (.int .i64 4)).run Try.prog W = .ok (.slice (some ⟨W.heap.size, 0, none⟩) 4 4) (W.alloc (.cells (reps 4 (pcells zPg)).toArray 80)) :=
    fun W => run_make_reps (P := Try.prog) 65 80 i0 _ (pcells zPg) Try.underlying65 hi hz0 rfl hz1 4 (by rw [hz2]; omega) (by omega) W
  have n1 : ¬ (n < 0) := by omega
  have n2 : ¬ (100 < n) := by omega
  have hr := Blk.new w 67 #[.int .i64 0, .slice none 0 0]
  go_enter Try.func122, Try.ntmps122
  go_wp2_with fail
  refine (l1In_t n 0 100 _ h).mono ?_
  rintro e w1 ⟨rfl, rfl⟩
  obtain ⟨q1, q2, q3⟩ := lit2 w 67 80 #[.int .i64 0, .slice none 0 0] (reps 4 (pcells zPg)).toArray
  have x0 : ((w.alloc (.cells #[.int .i64 0, .slice none 0 0] 67)).alloc (.cells (reps 4 (pcells zPg)).toArray 80)).cell? ⟨w.heap.size, 0, none⟩ = some (.int .i64 0) := (q1.cell _).trans rfl
  have f0 := q1.frozen 0
  have x1 : ((w.alloc (.cells #[.int .i64 0, .slice none 0 0] 67)).alloc (.cells (reps 4 (pcells zPg)).toArray 80)).cell? ⟨w.heap.size, 1, none⟩ = some (.slice none 0 0) := (q1.cell _).trans rfl
  have f1 := q1.frozen 1
  clear q1 q2 q3
  go_wp2
  (try simp only [Exit.inBlock, Exit.then])
  refine bodyPost_ret (v := .agg #[.int .i64 n, .slice (some ⟨w.heap.size + 1, 0, none⟩) 4 4]) (by simp [results, Try.results122, go_sem, *]) rfl ?_
  obtain ⟨-, hb, hcs⟩ := lit2 w 67 80 #[.int .i64 n, .slice (some ⟨w.heap.size + 1, 0, none⟩) 4 4] (reps 4 (pcells zPg)).toArray
  refine ⟨w.heap.size + 1, 4, [], rfl, rfl, ⟨Nat.le_succ _, hb.lt, ?_, Nat.le_refl _⟩, hcs⟩
  show Blk _ _ _ (reps 4 (pcells zPg)).toArray
  exact hb
theorem newDevice_ok {n : Int} (h : 1 ≤ n ∧ n ≤ 12) : newDevice n = List.replicate n.toNat (newBlock 0) := if_pos h
theorem newDevice_no {n : Int} (h : ¬ (1 ≤ n ∧ n ≤ 12)) : newDevice n = [] := if_neg h
set_option maxRecDepth 100000 in
set_option maxHeartbeats 2000000 in
theorem sNewDevice_any (z : Int) (w : World) : Calls Try.prog 103 #[.int .i64 z] w (DevP w (newDevice z)) := by
  obtain ⟨i0, hi, hz0, hz1, hz2⟩ := info_parts info_block
  have HE := Lib.hid (own_empty w 67 2 w.heap.size (Nat.le_refl _))
  by_cases h1 : 1 ≤ z
  case neg =>
    rw [newDevice_no (by omega)]
    have h1' : ¬ (0 < z) := by omega
    go_enter Try.func103, Try.ntmps103
    go_wp2
    go_loopw [3, 4] (fun v i wr => v = .slice (some ⟨w.heap.size, 0, none⟩) 0 0 ∧ i = .int .i64 0 ∧ wr = w.alloc (.cells #[] 67)) (fun _ i _ => 0)
    case atStart => exact ⟨rfl, rfl, rfl⟩
    case round =>
      obtain ⟨rfl, rfl, rfl⟩ := hrel
      go_wp2
      go_ret
      exact ⟨_, _, [], rfl, rfl, DevQ.nil _ _ _ _ _, (Chg.refl _ _).alloc _⟩
  obtain ⟨n, rfl⟩ := Int.eq_ofNat_of_zero_le (show 0 ≤ z by omega)
  go_enter Try.func103, Try.ntmps103
  go_wp2
  go_loopw [3, 4] (fun v i wr => ∃ (k : Nat) (T : List BkO), k ≤ n ∧ (0 < k → n ≤ 12) ∧ i = .int .i64 k ∧ Chg NoB w wr ∧ Hid (bksOf T = List.replicate k ⟨0, List.replicate 4 zPg⟩) ∧ BksO w.heap.size wr.heap.size wr T ∧ wr.ownsRow w.heap.size 67 2 v k (bcells T)) (fun _ i _ => n - (intOf i).toNat)
  case atStart => exact ⟨0, [], Nat.zero_le _, by omega, rfl, (Chg.refl _ _).alloc _, Lib.hid rfl, BksO.nil _ _ _, HE.out⟩
  case round =>
    obtain ⟨wo, rfl⟩ : ∃ wo, wo = wr := ⟨_, rfl⟩
    obtain ⟨k, T, hk, hk12, rfl, hch, hT, hrows, how⟩ := hrel
    have hTl : T.length = k := by have := congrArg List.length hT.out; rw [bksOf_length, List.length_replicate] at this; omega
    have HC := Lib.hid hch
    have HO := Lib.hid how
    have HR := Lib.hid hrows
    have HTL := Lib.hid hTl
    clear hch how hrows hTl
    by_cases hlt : k < n
    · have hi0 : (0 : Int) ≤ (k : Int) := Int.natCast_nonneg _
      have hi1 : (k : Int) < (n : Int) := by omega
      by_cases h12 : n ≤ 12
      case neg =>
        obtain rfl : k = 0 := by rcases Nat.eq_zero_or_pos k with h | h; exact h; exact absurd (hk12 h) h12
        obtain ⟨A, c, rfl, -, -⟩ := own_rd HO.out
        go_wp2_with fail
        refine (l1In_f n 1 12 _ (by omega)).mono ?_
        rintro e w1 ⟨rfl, rfl⟩
        go_wp2
        go_ret
        rw [newDevice_no (by omega)]
        exact ⟨A, c, [], rfl, rfl, DevQ.nil _ _ _ _ _, HC.out⟩
      go_wp2_with fail
      refine (l1In_t n 1 12 _ (by omega)).mono ?_
      rintro e w1 ⟨rfl, rfl⟩
      go_wp2_with fail
      refine (sNewBlock_any 0 _ (by omega)).mono ?_
      rintro e w2 ⟨g1, c1, rest1, rfl, h4, hok1, hc2⟩
      have hO2 := own_chg HO.out hc2 (fun _ _ x => x)
      have hR2 := HR.out.new hc2
      have HOK := Lib.hid hok1
      have HC2 := Lib.hid (HC.out.trans hc2)
      have HO2 := Lib.hid hO2
      have HR2 := Lib.hid hR2
      have hsz := HC.out.size
      have hsz2 := HC2.out.size
      have HL := Lib.hid (show bksOf (T ++ [⟨g1, c1, 0, List.replicate 4 zPg, rest1⟩]) = List.replicate (k + 1) ⟨0, List.replicate 4 zPg⟩ from bksOf_rep hT.out rfl)
      clear hok1 hO2 hR2 hc2
      go_wp2_with (at_builtin; refine wpList_append_own _ rfl (.tmp 15) (.tmp 17) _ rfl w.heap.size 67 i0 (.agg #[.int .i64 0, .slice none 0 0]) 2 32 Try.underlying23 hi hz0 hz1 hz2 rfl (by decide) _ _ _ rfl (HO2.out.alloc _) ⟨w2.heap.size, 0, none⟩ 1 1 [.int .i64 0, .slice (some ⟨g1, 0, none⟩) 4 c1] rfl rfl (cells_new _ _ _) (by simp [Value.oneCell']) (by simp only [maxLen]; omega) (by omega) (by simp; omega) ?_; intro v' w5 hown' hgrow _)
      go_roundw
      case rel =>
        refine ⟨k + 1, T ++ [⟨g1, c1, 0, List.replicate 4 zPg, rest1⟩], by omega, fun _ => h12, by go_num, chg_grown (HO2.out.alloc _) hgrow (HC2.out.alloc _) (Nat.le_refl _), HL, ?_, ?_⟩
        · exact ((HR2.out.snoc (HOK.out.more hsz (Nat.le_refl _)) HOK.out.1).grown ((Chg.refl NoB w2).alloc _) (HO2.out.alloc _) hgrow (Nat.le_refl _))
        · rw [bcells_snoc]; exact hown'
      case measure => simp [intOf]; omega
    · obtain rfl : k = n := by omega
      by_cases h12 : k ≤ 12
      case neg => exact absurd (hk12 (by omega)) h12
      go_wp2_with fail
      go_ret
      obtain ⟨A, c, rfl, hO⟩ := DevQ.of_row HO.out HTL.out HR.out
      rw [newDevice_ok (by omega), newBlock_ok (by omega), show ((k : Int)).toNat = k from rfl]
      refine ⟨A, c, T, by rw [List.length_replicate]; rfl, hT.out, hO, HC.out⟩
theorem newBk_ok : BkOk ⟨0, List.replicate 4 zPg⟩ := ⟨⟨by show (0 : Int) ≤ 0; omega, by show (0 : Int) ≤ 100; omega⟩, by simp, fun k hk => ⟨by simp only [List.getElem_replicate]; exact PgOk.zero, fun _ hf => by simp only [List.getElem_replicate] at hf; cases hf⟩⟩
theorem newDv_len {n : Nat} (h : 1 ≤ n ∧ n ≤ 12) : (newDevice n).length = n := by rw [newDevice_ok (by omega)]; simp
theorem newDv_get {n : Nat} (h : 1 ≤ n ∧ n ≤ 12) (k : Nat) (hk : k < n) : (newDevice n).getD k zBk = ⟨0, List.replicate 4 zPg⟩ := by
  rw [newDevice_ok (by omega), newBlock_ok (by omega), List.getD_eq_getElem?_getD, List.getElem?_replicate, if_pos (by simpa using hk)]
  rfl
theorem newDv_ok {n : Nat} (h : 1 ≤ n ∧ n ≤ 12) : DvOk (newDevice n) := by
  refine ⟨by rw [newDv_len h]; exact h, fun k hk => ?_⟩
  have := newDv_get h k (by rw [newDv_len h] at hk; exact hk)
  rw [List.getD_eq_getElem?_getD, List.getElem?_eq_getElem hk, Option.getD_some] at this
  rw [this]
  exact newBk_ok
end Go.Proofs.Ytpiojofmflfkkaa
/- Copies of blocks and devices; EraseBlock of the program and of the reference. -/
namespace Go.Proofs.Ytpiojofmflfkkaa
open Go.RowKit
theorem pgs_one (ps : List Pg) : ∀ u ∈ pgs ps, u.oneCell' = true := fun u hu => by
  obtain ⟨l, _, hl⟩ := List.mem_flatMap.1 hu
  simp [pcells] at hl
  rcases hl with rfl | rfl | rfl | rfl | rfl <;> rfl
theorem OwnS.four {B E : Nat} {w : World} {t : TypeId} {A : Option Addr} {c : Nat} {cs : List Value} (h : OwnS B E w t A 4 c cs) : 4 ≤ c ∧ ∃ g rest, A = some ⟨g, 0, none⟩ ∧ B ≤ g ∧ g < E ∧ Blk w g t (cs ++ rest).toArray := by
  refine ⟨h.1, ?_⟩
  rcases h.2 with ⟨h0, _⟩ | h1
  · cases h0
  · exact h1
set_option maxRecDepth 100000 in
set_option maxHeartbeats 1000000 in
theorem ClonePages_any (F : Nat → Prop) (A : Option Addr) (c : Nat) (ps : List Pg) (w : World) (h : Rd F w A (pgs ps)) (h4 : ps.length = 4) :
    Calls Try.prog 161 #[.slice A 4 c] w fun e w' => ∃ A' c', e = .returned (.slice A' 4 c') ∧ OwnS w.heap.size w'.heap.size w' 80 A' 4 c' (pgs ps) ∧ Chg NoB w w' := by
  obtain ⟨i0, hi, hz0, hz1, hz2⟩ := info_parts info_page
  obtain ⟨bb, oo, rfl, -, -, -⟩ := pgs_at h (k := 0) (by omega)
  have hnil := fun W => Lib.run_eql_slice_nil (P := Try.prog) W 65 80 (some ⟨bb, oo, none⟩) 4 c 0 0 Try.underlying65
  go_enter Try.func161, Try.ntmps161
  have hnews : ∀ j u, (pgs ps)[j]? = some u → (w.alloc (.cells #[] 80)).cell? ((⟨bb, oo, none⟩ : Addr).add j) = some u := fun j u hj => by
    obtain ⟨ad, e, _, hcell⟩ := h.chg ((Chg.refl NoB w).alloc (.cells #[] 80)) (fun _ _ x => x) j u hj
    cases e
    exact hcell
  have Hone := Lib.hid (pgs_one ps)
  have Hl := Lib.hid (show (pgs ps).length = 4 * 5 by rw [pgs_length, h4])
  have Hn := Lib.hid hnews
  clear hnews
  go_wp2_with (at_builtin; refine wpList_append_own _ rfl (.tmp 5) (.tmp 6) _ rfl w.heap.size 80 i0 (.agg #[.bool false, .int .i64 0, .int .i64 0, .int .i64 0, .int .i64 0]) 5 40 Try.underlying65 hi hz0 hz1 hz2 rfl (by decide) _ 0 [] rfl (own_empty w _ 5 _ (Nat.le_refl _)) ⟨bb, oo, none⟩ 4 c (pgs ps) rfl Hl.out Hn.out Hone.out (by simp only [maxLen]; omega) (by omega) (by simp) ?_; intro v' w5 hown' hgrow _)
  go_ret
  obtain ⟨A', c', hv, ho⟩ := OwnS.of_row hown'
  subst hv
  exact ⟨A', c', by rw [Nat.zero_add]; rfl, by rwa [Nat.zero_add, List.nil_append] at ho, chg_grown (own_empty w 80 5 _ (Nat.le_refl _)) hgrow ((Chg.refl _ _).alloc _) (Nat.le_refl _)⟩
set_option maxRecDepth 100000 in
set_option maxHeartbeats 2000000 in
theorem cloneBlock_any (F : Nat → Prop) (A : Option Addr) (c : Nat) (x : Int) (ps : List Pg) (w : World) (h : Rd F w A (pgs ps)) (h4 : ps.length = 4) :
    Calls Try.prog 141 #[.agg #[.int .i64 x, .slice A 4 c]] w (NewBP w x ps) := by
  obtain ⟨i0, hi, hz0, hz1, hz2⟩ := info_parts info_page
  obtain ⟨q1, q2, q3⟩ := lit2 w 67 67 #[.int .i64 x, .slice A 4 c] #[.int .i64 0, .slice none 0 0]
  have hr3 := h.lt.new q3
  go_enter Try.func141, Try.ntmps141
  go_wp2_with fail
  obtain ⟨w3, hw3⟩ : ∃ w3, (w.alloc (.cells #[.int .i64 x, .slice A 4 c] 67)).alloc (.cells #[.int .i64 0, .slice none 0 0] 67) = w3 := ⟨_, rfl⟩
  rw [hw3] at q1 q2 q3 hr3 ⊢
  have hl2 := q2.lt
  have HB1 := Lib.hid q1
  have HB2 := Lib.hid q2
  have HC3 := Lib.hid q3
  have HR3 := Lib.hid hr3
  have H4 := Lib.hid h4
  have v0 : w3.cell? ⟨w.heap.size, 0, none⟩ = some (.int .i64 x) := (q1.cell _).trans rfl
  have v1 : w3.cell? ⟨w.heap.size, 1, none⟩ = some (.slice A 4 c) := (q1.cell _).trans rfl
  clear q1 q2 q3 hr3 hw3 h h4
  have hn1 : w.heap.size ≠ w.heap.size + 1 := by omega
  have hn2 : w.heap.size + 1 ≠ w.heap.size := by omega
  go_region_held3 (fun w' => w'.cell? ⟨w.heap.size, 0, none⟩ = some (.int .i64 x) ∧ w'.cell? ⟨w.heap.size, 1, none⟩ = some (.slice A 4 c))
    (first | go_keep | (refine ⟨?_, ?_⟩ <;> exact ((HB1.out.chg (F := NoB) ((Chg.refl _ w3).drew.trans hcc) (fun x => x)).cell _).trans rfl))
    (first | (go_at_call 161; refine (ClonePages_any _ A c ps _ (HR3.out.new (Chg.refl NoB w3).drew) H4.out).mono ?_; rintro e' w5 ⟨A', c', rfl, ho, hcc⟩; have hk := (Chg.refl NoB w3).drew.trans hcc; have hb5 := HB2.out.chg hk (fun x => x); obtain ⟨hc4, g, rest, rfl, hgB, hgE, hbg⟩ := ho.four; have HK := Lib.hid hk; have HBG := Lib.hid hbg; have HC4 := Lib.hid hc4; have HGB := Lib.hid (show w3.heap.size ≤ g from hgB); have HGE := Lib.hid hgE; have HB5 := Lib.hid hb5; have p0 : w5.cell? ⟨w.heap.size + 1, 0, none⟩ = some (.int .i64 0) := (hb5.cell _).trans rfl; have p1 : w5.cell? ⟨w.heap.size + 1, 1, none⟩ = some (.slice none 0 0) := (hb5.cell _).trans rfl; have pf0 := hb5.frozen 0; have pf1 := hb5.frozen 1; clear hk ho hb5 hbg hc4 hgB hgE))
  rename_i hh
  clear hh hcc
  go_wp2_with fail
  (try simp only [Exit.inBlock, Exit.then])
  refine bodyPost_ret (v := .agg #[.int .i64 x, .slice (some ⟨g, 0, none⟩) 4 c']) (by simp [results, Try.results141, go_sem, *]) rfl ?_
  have hcs := chg2' (F := (· = w.heap.size + 1)) (a := .int .i64 x) (b := .slice (some ⟨g, 0, none⟩) 4 c') (Chg.refl (· = w.heap.size + 1) w5) (.inl rfl)
  have hg1 := HGB.out
  have hg2 := HGE.out
  exact ⟨g, c', rest, rfl, H4.out, ⟨show w.heap.size ≤ g by omega, by simpa [World.setCell] using hg2, HBG.out.chg hcs (by show ¬ (g = w.heap.size + 1); omega), by show ps.length ≤ c'; rw [H4.out]; exact HC4.out⟩, (HC3.out.trans HK.out).own hcs (by omega)⟩
set_option maxRecDepth 100000 in
set_option maxHeartbeats 2000000 in
theorem l4Copy_any (F : Nat → Prop) (A : Option Addr) (c : Nat) (x : Int) (ps : List Pg) (w : World) (h : Rd F w A (pgs ps)) (h4 : ps.length = 4) :
    Calls Try.prog 132 #[.agg #[.int .i64 x, .slice A 4 c]] w (NewBP w x ps) := by
  obtain ⟨i0, hi, hz0, hz1, hz2⟩ := info_parts info_page
  obtain ⟨q1, q2, q3⟩ := lit2 w 67 67 #[.int .i64 x, .slice A 4 c] #[.int .i64 0, .slice none 0 0]
  have hr3 := h.lt.new q3
  go_enter Try.func132, Try.ntmps132
  go_wp2_with fail
  obtain ⟨w3, hw3⟩ : ∃ w3, (w.alloc (.cells #[.int .i64 x, .slice A 4 c] 67)).alloc (.cells #[.int .i64 0, .slice none 0 0] 67) = w3 := ⟨_, rfl⟩
  rw [hw3] at q1 q2 q3 hr3 ⊢
  have hl2 := q2.lt
  have HB1 := Lib.hid q1
  have HB2 := Lib.hid q2
  have HC3 := Lib.hid q3
  have HR3 := Lib.hid hr3
  have H4 := Lib.hid h4
  have v0 : w3.cell? ⟨w.heap.size, 0, none⟩ = some (.int .i64 x) := (q1.cell _).trans rfl
  have v1 : w3.cell? ⟨w.heap.size, 1, none⟩ = some (.slice A 4 c) := (q1.cell _).trans rfl
  clear q1 q2 q3 hr3 hw3 h h4
  obtain ⟨w0, hw0⟩ : ∃ w0, w.heap.size = w0 := ⟨_, rfl⟩
  have HW0 := Lib.hid hw0
  rw [hw0] at HB1 HB2 hl2 v0 v1 ⊢
  refine wp_region_rg (WInv := fun _ m w5 => Chg (fun k => k = (w0 + 1)) w3 w5 ∧ StI (w0 + 1) 67 #[.int .i64 0, .slice none 0 0] 7 6 m w5) (R := Chg (fun k => k = (w0 + 1))) (Post := PL [fun v w => v = .pointer (some ⟨w0, 0, none⟩), fun v w => v = .int .i64 x, fun v w => ∃ g0 : Nat, v = .slice (some ⟨g0, 0, none⟩) 0 0 ∧ w3.heap.size ≤ g0 ∧ Blk w g0 80 #[], fun v w => v = .pointer (some ⟨w0, 1, none⟩), fun v w => v = .slice A 4 c, fun v w => ∃ A' : Option Addr, ∃ c' : Nat, v = .slice A' 4 c' ∧ w.ownsRow w3.heap.size 80 5 (.slice A' 4 c') 4 (pgs ps), fun v w => ∃ A' : Option Addr, ∃ c' : Nat, v = .agg #[.int .i64 x, .slice A' 4 c'] ∧ w.ownsRow w3.heap.size 80 5 (.slice A' 4 c') 4 (pgs ps), fun _ _ => True]) (by kernel_rfl) (by kernel_rfl) ?_ (pl_stab ⟨(fun _ _ _ h _ => h), (fun _ _ _ h _ => h), (fun _ _ _ ⟨g0, hv, hg0, hb0⟩ hR => ⟨g0, hv, hg0, (hb0.chg hR (by show ¬ (g0 = w0 + 1); omega))⟩), (fun _ _ _ h _ => h), (fun _ _ _ h _ => h), (fun _ _ _ ⟨A', c', hv, ho⟩ hR => ⟨A', c', hv, (own_chg1 ho hR (fun g _ hg _ hk => absurd hk (by show ¬ (g = w0 + 1); omega)))⟩), (fun _ _ _ ⟨A', c', hv, ho⟩ hR => ⟨A', c', hv, (own_chg1 ho hR (fun g _ hg _ hk => absurd hk (by show ¬ (g = w0 + 1); omega)))⟩), (fun _ _ _ _ _ => trivial), trivial⟩) ⟨(Chg.refl _ _).drew, .inl ⟨rfl, (HB2.out.chg (Chg.refl NoB w3).drew (fun x => x))⟩⟩ ?_ ?_
  · exact fun _ _ _ _ h _ _ => h
  · refine ⟨?_, ?_, ?_, ?_, ?_, ?_, ?_, ?_, trivial⟩
    · rintro kc m a w5 hkc ⟨hch, hst⟩ hm hn
      obtain ⟨h0, -⟩ := hn
      have e0 : a.tmps[1]?.getD undef = .pointer (some ⟨w0, 0, none⟩) := h0
      exact rg_val (v := .pointer (some ⟨w0, 0, none⟩)) (by simp [execOp, go_sem, e0]) rfl ⟨hch, hst.keep (by decide) hm (Chg.refl NoB _) (fun x => x)⟩ (Chg.refl _ _) rfl
    · rintro kc m a w5 hkc ⟨hch, hst⟩ hm hn
      obtain ⟨⟨_, e0, m0, rfl⟩, -⟩ := hn
      have y0 := hch.cell v0 (by show ¬ (w0 = w0 + 1); omega)
      exact rg_val (v := .int .i64 x) (by simp [execOp, go_sem, e0, y0]) rfl ⟨hch, hst.keep (by decide) hm (Chg.refl NoB _) (fun x => x)⟩ (Chg.refl _ _) rfl
    · rintro kc m a w5 hkc ⟨hch, hst⟩ hm hn
      have hca : Chg NoB w5 (w5.alloc (.cells #[] 80)) := (Chg.refl _ _).alloc _
      exact rg_val (v := .slice (some ⟨w5.heap.size, 0, none⟩) 0 0) (w' := w5.alloc (.cells #[] 80)) (by simp [execOp, go_sem]) rfl ⟨hch.alloc _, hst.keep (by decide) hm hca (fun x => x)⟩ (hca.mono (fun _ _ x => x.elim)) ⟨_, rfl, hch.size, Blk.new _ _ _⟩
    · rintro kc m a w5 hkc ⟨hch, hst⟩ hm hn
      obtain ⟨h0, -⟩ := hn
      have e0 : a.tmps[1]?.getD undef = .pointer (some ⟨w0, 0, none⟩) := h0
      exact rg_val (v := .pointer (some ⟨w0, 1, none⟩)) (by simp [execOp, go_sem, e0]) rfl ⟨hch, hst.keep (by decide) hm (Chg.refl NoB _) (fun x => x)⟩ (Chg.refl _ _) rfl
    · rintro kc m a w5 hkc ⟨hch, hst⟩ hm hn
      obtain ⟨⟨_, e0, m0, rfl⟩, -⟩ := hn
      have y0 := hch.cell v1 (by show ¬ (w0 = w0 + 1); omega)
      exact rg_val (v := .slice A 4 c) (by simp [execOp, go_sem, e0, y0]) rfl ⟨hch, hst.keep (by decide) hm (Chg.refl NoB _) (fun x => x)⟩ (Chg.refl _ _) rfl
    · rintro kc m a w5 hkc ⟨hch, hst⟩ hm hn
      obtain ⟨⟨_, e0, m0, g0, rfl, hg0, hb0⟩, ⟨_, e1, m1, rfl⟩, -⟩ := hn
      obtain ⟨v', w6, hr, ho, hc6, hne⟩ := run_append_fresh (P := Try.prog) w5 w3.heap.size 65 65 80 i0 (.agg #[.bool false, .int .i64 0, .int .i64 0, .int .i64 0, .int .i64 0]) 5 40 Try.underlying65 hi hz0 hz1 hz2 rfl (by decide) g0 hg0 hb0 A 4 c (pgs ps) (by rw [pgs_length, H4.out]) (HR3.out.chg hch (fun k hk he => absurd he (by have := hk.2; have := HW0.out; show ¬ (k = w0 + 1); omega))) (by simp only [maxLen]; omega) (by omega) hch.size
      obtain ⟨A', c', rfl, _⟩ := own_rd ho
      exact rg_val (v := .slice A' 4 c') (w' := w6) (exec_append (.tmp 5) (.tmp 7) 65 rfl (by simpa [Act.eval] using e0) (by simpa [Act.eval] using e1) hr) rfl ⟨hch.trans' hc6 (fun _ x => x.elim), hst.keep (by decide) hm hc6 (fun x => x)⟩ (hc6.mono (fun _ _ x => x.elim)) ⟨A', c', rfl, ho⟩
    · rintro kc m a w5 hkc ⟨hch, hst⟩ hm hn
      obtain ⟨⟨_, e0, m0, rfl⟩, ⟨_, e1, m1, A', c', rfl, ho⟩, -⟩ := hn
      exact rg_val (v := .agg #[.int .i64 x, .slice A' 4 c']) (by simp [execOp, go_sem, e0, e1]) rfl ⟨hch, hst.keep (by decide) hm (Chg.refl NoB _) (fun x => x)⟩ (Chg.refl _ _) ⟨A', c', rfl, ho⟩
    · rintro kc m a w5 hkc ⟨hch, hst⟩ hm hn
      obtain ⟨h0, ⟨_, e1, m1, A', c', rfl, ho⟩, -⟩ := hn
      have e0 : a.tmps[2]?.getD undef = .pointer (some ⟨w0 + 1, 0, none⟩) := h0
      have hb := hst.ready hm
      have f0 := hb.frozen 0
      have x0 : w5.cell? ⟨(w0 + 1), 0, none⟩ = some (.int .i64 0) := (hb.cell _).trans rfl
      have f1 := hb.frozen 1
      have x1 : w5.cell? ⟨(w0 + 1), 1, none⟩ = some (.slice none 0 0) := (hb.cell _).trans rfl
      have hs : Chg (· = (w0 + 1)) w5 ((w5.setCell ⟨(w0 + 1), 0, none⟩ (.int .i64 x)).setCell ⟨(w0 + 1), 1, none⟩ (.slice A' 4 c')) := (((Chg.refl (· = (w0 + 1)) w5).setCell (p := ⟨(w0 + 1), 0, none⟩) (.inl rfl) _).setCell (p := ⟨(w0 + 1), 1, none⟩) (.inl rfl) _)
      have hb' : Blk ((w5.setCell ⟨(w0 + 1), 0, none⟩ (.int .i64 x)).setCell ⟨(w0 + 1), 1, none⟩ (.slice A' 4 c')) (w0 + 1) 67 #[.int .i64 x, .slice A' 4 c'] := ((hb.set_ 0 _).set_ 1 _)
      exact rg_skip (w' := ((w5.setCell ⟨(w0 + 1), 0, none⟩ (.int .i64 x)).setCell ⟨(w0 + 1), 1, none⟩ (.slice A' 4 c'))) (by simp [execOp, go_sem, e0, e1, x0, x1, f0, f1]) rfl ⟨hch.trans (hs.mono (fun _ _ x => x)), StI.store (by decide) m1 hb'⟩ (hs.mono (fun _ _ x => x)) trivial
  rintro m w5 ⟨hch, hst⟩
  simp only [AllVals]
  rintro q0 m0 p0 q1 m1 p1 q2 m2 p2 q3 m3 p3 q4 m4 p4 q5 m5 p5 q6 m6 p6 q7 m7 p7
  obtain ⟨A', c', rfl, ho⟩ := p6
  have hb := hst.done m7 m6
  have HO := Lib.hid ho
  have HCH := Lib.hid hch
  have p0' : w5.cell? ⟨w0 + 1, 0, none⟩ = some (.int .i64 x) := (hb.cell _).trans rfl
  have p1' : w5.cell? ⟨w0 + 1, 1, none⟩ = some (.slice A' 4 c') := (hb.cell _).trans rfl
  clear hst hb ho hch
  clear p0 p1 p2 p3 p4 p5 p7
  simp only [Act.put, List.setIfInBounds_toArray, List.set_cons_succ, List.set_cons_zero]
  go_wp2_with fail
  (try simp only [Exit.inBlock, Exit.then])
  obtain ⟨A'', c'', hv, ho⟩ := OwnS.of_row HO.out
  injection hv with e1 e2 e3
  subst e1 e3
  obtain ⟨hc4, g, rest, rfl, hgB, hgE, hbg⟩ := ho.four
  refine bodyPost_ret (v := .agg #[.int .i64 x, .slice (some ⟨g, 0, none⟩) 4 c']) (by simp [results, Try.results132, go_sem, *]) rfl ?_
  have hw0' := HW0.out
  exact ⟨g, c', rest, rfl, H4.out, ⟨show w.heap.size ≤ g by omega, hgE, hbg, by show ps.length ≤ c'; rw [H4.out]; exact hc4⟩, HC3.out.trans' HCH.out (fun k hk => .inr (by rw [hw0']; have hk' : k = w0 + 1 := hk; omega))⟩
end Go.Proofs.Ytpiojofmflfkkaa
/- EraseBlock, copies of devices, EraseAt of the program and of the reference. -/
namespace Go.Proofs.Ytpiojofmflfkkaa
open Go.RowKit
theorem BkO.cells4 {r : BkO} (h : r.ps.length = 4) : r.cells = [.int .i64 r.wear, .slice (some ⟨r.g, 0, none⟩) 4 r.c] := by unfold BkO.cells; rw [h]
def EraseBP (w : World) (b : Bk) (e : Ending) (w' : World) : Prop :=
  ∃ g c rest, e = .returned (.tuple #[.agg #[.int .i64 (eraseBlock b).1.wear, .slice (some ⟨g, 0, none⟩) 4 c], .bool (eraseBlock b).2]) ∧ (eraseBlock b).1.pages.length = 4 ∧ BkO.ok w.heap.size w'.heap.size w' ⟨g, c, (eraseBlock b).1.wear, (eraseBlock b).1.pages, rest⟩ ∧ Chg NoB w w'
theorem eraseBlock_old {b : Bk} (h : BkOk b) (h1 : b.wear = 100) : eraseBlock b = (b, false) := by unfold eraseBlock; rw [if_pos h, if_pos h1]
theorem eraseBlock_new {b : Bk} (h : BkOk b) (h1 : ¬ b.wear = 100) : eraseBlock b = (⟨b.wear + 1, List.replicate 4 zPg⟩, true) := by
  unfold eraseBlock; rw [if_pos h, if_neg h1, newBlock_ok (by have := h.1; omega)]
theorem bcells_split {T : List BkO} {k : Nat} (hk : k < T.length) : bcells T = bcells (T.take k) ++ .int .i64 T[k].wear :: .slice (some ⟨T[k].g, 0, none⟩) T[k].ps.length T[k].c :: bcells (T.drop (k + 1)) := by
  conv => lhs; rw [← List.take_append_drop k T, List.drop_eq_getElem_cons hk]
  rw [bcells_append]
  rfl
theorem bcells_set {T : List BkO} {k : Nat} (hk : k < T.length) (r : BkO) : bcells (T.set k r) = bcells (T.take k) ++ .int .i64 r.wear :: .slice (some ⟨r.g, 0, none⟩) r.ps.length r.c :: bcells (T.drop (k + 1)) := by
  rw [List.set_eq_take_append_cons_drop, if_pos hk, bcells_append]
  rfl
theorem bksOf_set (T : List BkO) (k : Nat) (r : BkO) : bksOf (T.set k r) = (bksOf T).set k r.bk := by unfold bksOf; rw [List.map_set]
/-- One block of a device is laid anew. -/
theorem DevQ.setBk {B E E' : Nat} {w : World} {g c k : Nat} {T : List BkO} {rest : List Value} {r : BkO} (h : DevQ B E w (some ⟨g, 0, none⟩) c T) (hb : Blk w g 67 (bcells T ++ rest).toArray) (hg : B ≤ g ∧ g < E) (hk : k < T.length) (hr : r.ok B E' w) (hE : E ≤ r.g) :
    DevQ B E' ((w.setCell ⟨g, k * 2, none⟩ (.int .i64 r.wear)).setCell ⟨g, k * 2 + 1, none⟩ (.slice (some ⟨r.g, 0, none⟩) r.ps.length r.c)) (some ⟨g, 0, none⟩) c (T.set k r) := by
  have hl : (bcells (T.take k)).length = k * 2 := by rw [bcells_length, List.length_take]; omega
  rw [bcells_split hk, List.append_assoc] at hb
  have hf := hb.fill2 hl (.int .i64 r.wear) (.slice (some ⟨r.g, 0, none⟩) r.ps.length r.c)
  have hc := chg2 (F := (· = g)) (a := .int .i64 r.wear) (b := .slice (some ⟨r.g, 0, none⟩) r.ps.length r.c) (Chg.refl (· = g) w) (.inl rfl) (k * 2)
  have hn := (h.1.2.set_ k hr hE).head hb hc
  refine ⟨⟨⟨by rw [List.length_set]; exact h.1.1.1, .inr ⟨g, rest, rfl, hg.1, ?_, ?_⟩⟩, hn⟩, fun _ => ?_⟩
  rotate_left 2
  · obtain ⟨hm, g', cs, e, hb2, hs⟩ := h.2 (by omega)
    injection e with e
    injection e with e
    subst e
    exact ⟨hm, g, _, rfl, (hb2.set_ (k * 2) _).set_ (k * 2 + 1) _, by simpa using hs⟩
  · have := hr.2.1; omega
  · rw [bcells_set hk, List.append_assoc]
    exact hf
theorem DevO.room {w : World} {g k : Nat} {T : List BkO} {rest : List Value} (hb : Blk w g 67 (bcells T ++ rest).toArray) (hk : k < T.length) :
    w.cell? ⟨g, k * 2, none⟩ = some (.int .i64 T[k].wear) ∧ w.cell? ⟨g, k * 2 + 1, none⟩ = some (.slice (some ⟨T[k].g, 0, none⟩) T[k].ps.length T[k].c) := by
  have hl : (bcells (T.take k)).length = k * 2 := by rw [bcells_length, List.length_take]; omega
  rw [bcells_split hk, List.append_assoc] at hb
  exact hb.room2 hl
set_option maxRecDepth 100000 in
set_option maxHeartbeats 1000000 in
theorem iEraseBlock_any (F : Nat → Prop) (A : Option Addr) (c : Nat) (b : Bk) (w : World) (h : Rd F w A (pgs b.pages)) (hb : BkOk b) :
    Calls Try.prog 145 #[.agg #[.int .i64 b.wear, .slice A 4 c]] w (EraseBP w b) := by
  obtain ⟨q1, q2, q3⟩ := lit2 w 67 67 #[.int .i64 b.wear, .slice A 4 c] #[.int .i64 0, .slice none 0 0]
  have HV := Lib.hid (show ∀ wq, Rd F wq A (pgs b.pages) → Calls Try.prog 68 #[.agg #[.int .i64 b.wear, .slice A 4 c]] wq fun e w' => e = .returned (.bool true) ∧ Chg NoB wq w' from fun wq hq => by
    have := iBlockValid_t F A c b wq hq hb
    rwa [hb.2.1] at this)
  have hr3 := h.new q3
  have HB1 := Lib.hid q1
  have HB2 := Lib.hid q2
  have HC3 := Lib.hid q3
  have HR3 := Lib.hid hr3
  have HB := Lib.hid hb
  clear q1 q2 q3 hr3 h hb
  go_enter Try.func145, Try.ntmps145
  go_wp2_with fail
  refine (HV.out _ HR3.out).mono ?_
  rintro e w1 ⟨rfl, hc1⟩
  have hb1 := HB1.out.chg hc1 (fun x => x)
  have hb2 := HB2.out.chg hc1 (fun x => x)
  have v0 : w1.cell? ⟨w.heap.size, 0, none⟩ = some (.int .i64 b.wear) := (hb1.cell _).trans rfl
  have v1 : w1.cell? ⟨w.heap.size, 1, none⟩ = some (.slice A 4 c) := (hb1.cell _).trans rfl
  have HB21 := Lib.hid hb2
  have HC1 := Lib.hid (HC3.out.trans hc1)
  have HR1 := Lib.hid (HR3.out.new hc1)
  have HW0 := Lib.hid hb2.lt
  clear hb1 hb2 hc1
  by_cases h100 : b.wear = 100
  · have hq : (b.wear == 100) = true := beq_iff_eq.2 h100
    have HQ := Lib.hid (eraseBlock_old HB.out h100)
    clear h100
    go_wp2_with fail
    refine (cloneBlock_any F A c b.wear b.pages _ HR1.out HB.out.2.1).mono ?_
    rintro e w2 ⟨g, c', rest, rfl, h4, hok, hc2⟩
    have hb2 := HB21.out.chg hc2 (fun x => x)
    have x0 : w2.cell? ⟨(w.heap.size + 1), 0, none⟩ = some (.int .i64 0) := (hb2.cell _).trans rfl
    have f0 := hb2.frozen 0
    have x1 : w2.cell? ⟨(w.heap.size + 1), 1, none⟩ = some (.slice none 0 0) := (hb2.cell _).trans rfl
    have f1 := hb2.frozen 1
    have HOK := Lib.hid hok
    have HC2 := Lib.hid (HC1.out.trans hc2)
    clear hok hc2 hb2
    go_wp2_with fail
    (try simp only [Exit.inBlock, Exit.then])
    refine bodyPost_ret (v := .tuple #[.agg #[.int .i64 b.wear, .slice (some ⟨g, 0, none⟩) 4 c'], .bool false]) (by simp [results, Try.results145, go_sem, *]) rfl ?_
    have hcs := chg2' (F := (· = w.heap.size + 1)) (a := .int .i64 b.wear) (b := .slice (some ⟨g, 0, none⟩) 4 c') (Chg.refl (· = w.heap.size + 1) w2) (.inl rfl)
    unfold EraseBP
    rw [HQ.out]
    have hg := HOK.out.1
    have hw := HW0.out
    have hgE := HOK.out.2.1
    exact ⟨g, c', rest, rfl, h4, ⟨by show w.heap.size ≤ g; have : w1.heap.size ≤ g := hg; omega, by simpa [World.setCell] using hgE, HOK.out.2.2.1.chg hcs (by show ¬ (g = w.heap.size + 1); have : w1.heap.size ≤ g := hg; omega), HOK.out.2.2.2⟩, HC2.out.own hcs (by omega)⟩
  · have hq : (b.wear == 100) = false := beq_eq_false_iff_ne.2 h100
    have HQ := Lib.hid (eraseBlock_new HB.out h100)
    have hwr := HB.out.1
    have HWR := Lib.hid (show 0 ≤ b.wear + 1 ∧ b.wear + 1 ≤ 100 by omega)
    obtain ⟨hw0, hw1⟩ := hwr
    clear h100
    go_wp2_with fail
    refine (iNewBlock_any (b.wear + 1) _ HWR.out).mono ?_
    rintro e w2 ⟨g, c', rest, rfl, h4, hok, hc2⟩
    have hb2 := HB21.out.chg hc2 (fun x => x)
    have x0 : w2.cell? ⟨(w.heap.size + 1), 0, none⟩ = some (.int .i64 0) := (hb2.cell _).trans rfl
    have f0 := hb2.frozen 0
    have x1 : w2.cell? ⟨(w.heap.size + 1), 1, none⟩ = some (.slice none 0 0) := (hb2.cell _).trans rfl
    have f1 := hb2.frozen 1
    have HOK := Lib.hid hok
    have HC2 := Lib.hid (HC1.out.trans hc2)
    clear hok hc2 hb2
    go_wp2_with fail
    (try simp only [Exit.inBlock, Exit.then])
    refine bodyPost_ret (v := .tuple #[.agg #[.int .i64 (b.wear + 1), .slice (some ⟨g, 0, none⟩) 4 c'], .bool true]) (by simp [results, Try.results145, go_sem, *]) rfl ?_
    have hcs := chg2' (F := (· = w.heap.size + 1)) (a := .int .i64 (b.wear + 1)) (b := .slice (some ⟨g, 0, none⟩) 4 c') (Chg.refl (· = w.heap.size + 1) w2) (.inl rfl)
    unfold EraseBP
    rw [HQ.out]
    have hg := HOK.out.1
    have hw := HW0.out
    have hgE := HOK.out.2.1
    exact ⟨g, c', rest, rfl, h4, ⟨by show w.heap.size ≤ g; have : w1.heap.size ≤ g := hg; omega, by simpa [World.setCell] using hgE, HOK.out.2.2.1.chg hcs (by show ¬ (g = w.heap.size + 1); have : w1.heap.size ≤ g := hg; omega), HOK.out.2.2.2⟩, HC2.out.own hcs (by omega)⟩
set_option maxRecDepth 100000 in
set_option maxHeartbeats 1000000 in
theorem sEraseBlock_any (F : Nat → Prop) (A : Option Addr) (c : Nat) (b : Bk) (w : World) (h : Rd F w A (pgs b.pages)) (hb : BkOk b) :
    Calls Try.prog 139 #[.agg #[.int .i64 b.wear, .slice A 4 c]] w (EraseBP w b) := by
  obtain ⟨q1, q2, q3⟩ := lit2 w 67 67 #[.int .i64 b.wear, .slice A 4 c] #[.int .i64 0, .slice none 0 0]
  have HV := Lib.hid (show ∀ wq, Rd F wq A (pgs b.pages) → Calls Try.prog 126 #[.agg #[.int .i64 b.wear, .slice A 4 c]] wq fun e w' => e = .returned (.bool true) ∧ Chg NoB wq w' from fun wq hq => by
    have := sBlockValid_t F A c b wq hq hb
    rwa [hb.2.1] at this)
  have hr3 := h.new q3
  have HB1 := Lib.hid q1
  have HB2 := Lib.hid q2
  have HC3 := Lib.hid q3
  have HR3 := Lib.hid hr3
  have HB := Lib.hid hb
  clear q1 q2 q3 hr3 h hb
  go_enter Try.func139, Try.ntmps139
  go_wp2_with fail
  refine (HV.out _ HR3.out).mono ?_
  rintro e w1 ⟨rfl, hc1⟩
  have hb1 := HB1.out.chg hc1 (fun x => x)
  have hb2 := HB2.out.chg hc1 (fun x => x)
  have v0 : w1.cell? ⟨w.heap.size, 0, none⟩ = some (.int .i64 b.wear) := (hb1.cell _).trans rfl
  have v1 : w1.cell? ⟨w.heap.size, 1, none⟩ = some (.slice A 4 c) := (hb1.cell _).trans rfl
  have HB21 := Lib.hid hb2
  have HC1 := Lib.hid (HC3.out.trans hc1)
  have HR1 := Lib.hid (HR3.out.new hc1)
  have HW0 := Lib.hid hb2.lt
  clear hb1 hb2 hc1
  by_cases h100 : b.wear = 100
  · have hq : (b.wear == 100) = true := beq_iff_eq.2 h100
    have HQ := Lib.hid (eraseBlock_old HB.out h100)
    clear h100
    go_wp2_with fail
    refine (l4Copy_any F A c b.wear b.pages _ HR1.out HB.out.2.1).mono ?_
    rintro e w2 ⟨g, c', rest, rfl, h4, hok, hc2⟩
    have hb2 := HB21.out.chg hc2 (fun x => x)
    have x0 : w2.cell? ⟨(w.heap.size + 1), 0, none⟩ = some (.int .i64 0) := (hb2.cell _).trans rfl
    have f0 := hb2.frozen 0
    have x1 : w2.cell? ⟨(w.heap.size + 1), 1, none⟩ = some (.slice none 0 0) := (hb2.cell _).trans rfl
    have f1 := hb2.frozen 1
    have HOK := Lib.hid hok
    have HC2 := Lib.hid (HC1.out.trans hc2)
    clear hok hc2 hb2
    go_wp2_with fail
    (try simp only [Exit.inBlock, Exit.then])
    refine bodyPost_ret (v := .tuple #[.agg #[.int .i64 b.wear, .slice (some ⟨g, 0, none⟩) 4 c'], .bool false]) (by simp [results, Try.results139, go_sem, *]) rfl ?_
    have hcs := chg2' (F := (· = w.heap.size + 1)) (a := .int .i64 b.wear) (b := .slice (some ⟨g, 0, none⟩) 4 c') (Chg.refl (· = w.heap.size + 1) w2) (.inl rfl)
    unfold EraseBP
    rw [HQ.out]
    have hg := HOK.out.1
    have hw := HW0.out
    have hgE := HOK.out.2.1
    exact ⟨g, c', rest, rfl, h4, ⟨by show w.heap.size ≤ g; have : w1.heap.size ≤ g := hg; omega, by simpa [World.setCell] using hgE, HOK.out.2.2.1.chg hcs (by show ¬ (g = w.heap.size + 1); have : w1.heap.size ≤ g := hg; omega), HOK.out.2.2.2⟩, HC2.out.own hcs (by omega)⟩
  · have hq : (b.wear == 100) = false := beq_eq_false_iff_ne.2 h100
    have HQ := Lib.hid (eraseBlock_new HB.out h100)
    have hwr := HB.out.1
    have HWR := Lib.hid (show 0 ≤ b.wear + 1 ∧ b.wear + 1 ≤ 100 by omega)
    obtain ⟨hw0, hw1⟩ := hwr
    clear h100
    go_wp2_with fail
    refine (sNewBlock_any (b.wear + 1) _ HWR.out).mono ?_
    rintro e w2 ⟨g, c', rest, rfl, h4, hok, hc2⟩
    have hb2 := HB21.out.chg hc2 (fun x => x)
    have x0 : w2.cell? ⟨(w.heap.size + 1), 0, none⟩ = some (.int .i64 0) := (hb2.cell _).trans rfl
    have f0 := hb2.frozen 0
    have x1 : w2.cell? ⟨(w.heap.size + 1), 1, none⟩ = some (.slice none 0 0) := (hb2.cell _).trans rfl
    have f1 := hb2.frozen 1
    have HOK := Lib.hid hok
    have HC2 := Lib.hid (HC1.out.trans hc2)
    clear hok hc2 hb2
    go_wp2_with fail
    (try simp only [Exit.inBlock, Exit.then])
    refine bodyPost_ret (v := .tuple #[.agg #[.int .i64 (b.wear + 1), .slice (some ⟨g, 0, none⟩) 4 c'], .bool true]) (by simp [results, Try.results139, go_sem, *]) rfl ?_
    have hcs := chg2' (F := (· = w.heap.size + 1)) (a := .int .i64 (b.wear + 1)) (b := .slice (some ⟨g, 0, none⟩) 4 c') (Chg.refl (· = w.heap.size + 1) w2) (.inl rfl)
    unfold EraseBP
    rw [HQ.out]
    have hg := HOK.out.1
    have hw := HW0.out
    have hgE := HOK.out.2.1
    exact ⟨g, c', rest, rfl, h4, ⟨by show w.heap.size ≤ g; have : w1.heap.size ≤ g := hg; omega, by simpa [World.setCell] using hgE, HOK.out.2.2.1.chg hcs (by show ¬ (g = w.heap.size + 1); have : w1.heap.size ≤ g := hg; omega), HOK.out.2.2.2⟩, HC2.out.own hcs (by omega)⟩
set_option maxRecDepth 100000 in
set_option maxHeartbeats 2000000 in
theorem cloneDevice_any (F : Nat → Prop) (A : Option Addr) (c : Nat) (D : List Bk) (w : World) (h : DevR F w A D) (hD : DvOk D) :
    Calls Try.prog 87 #[.slice A D.length c] w (DevP w D) := by
  obtain ⟨i0, hi, hz0, hz1, hz2⟩ := info_parts info_block
  have hl12 := hD.1.2
  have hmk := fun W => run_make_reps (P := Try.prog) 23 67 i0 _ [.int .i64 0, .slice none 0 0] Try.underlying23 hi hz0 rfl hz1 D.length (by rw [hz2]; omega) (by omega) W
  have HX := Lib.hid hD
  clear hD
  go_enter Try.func87, Try.ntmps87
  go_wp2
  go_loopw [11] (fun i wr => ∃ (k : Nat) (T : List BkO), k ≤ D.length ∧ i = .int .i64 k ∧ Chg NoB w wr ∧ Hid (bksOf T = D.take k) ∧ BksO (w.heap.size + 1) wr.heap.size wr T ∧ Blk wr w.heap.size 67 (bcells T ++ reps (D.length - k) [.int .i64 0, .slice none 0 0]).toArray) (fun i _ => D.length - (intOf i).toNat)
  case atStart => exact ⟨0, [], Nat.zero_le _, rfl, (Chg.refl _ _).alloc _, Lib.hid rfl, BksO.nil _ _ _, Blk.new _ _ _⟩
  case round =>
    obtain ⟨k, T, hk, rfl, hch, hT, hrows, hb⟩ := hrel
    have hTl : T.length = k := by have := congrArg List.length hT.out; rw [bksOf_length, List.length_take] at this; omega
    by_cases hlt : k < D.length
    · obtain ⟨bb, o, A', c', rfl, hf, c0, c1, hr, hcc⟩ := (h.new hch) k hlt
      have h4 := (HX.out.2 k hlt).2.1
      rw [h4] at c1
      have hi0 : (0 : Int) ≤ (k : Int) := Int.natCast_nonneg _
      have hi1 : (k : Int) < (D.length : Int) := by omega
      have hca := (Chg.refl NoB wr).alloc (.cells #[.int .i64 D[k].wear, .slice A' 4 c'] 67)
      have HC := Lib.hid (hch.trans hca)
      have HB := Lib.hid (hb.chg hca (fun x => x))
      have HR := Lib.hid (hrows.new hca)
      have HRD := Lib.hid (hr.new hca)
      have HTL := Lib.hid hTl
      have HSA := Lib.hid hca.size
      have HSZ0 := Lib.hid hch.size
      have HH4 := Lib.hid h4
      clear hch hb hrows hr hTl hca h4
      go_wp2_with fail
      refine (cloneBlock_any _ A' c' D[k].wear D[k].pages _ HRD.out HH4.out).mono ?_
      rintro e w1 ⟨g1, c2, rest2, rfl, h4, hok1, hc2⟩
      have hb2 := HB.out.chg hc2 (fun x => x)
      obtain ⟨r, hr⟩ : ∃ r, D.length - k = r + 1 := ⟨D.length - k - 1, by omega⟩
      have hr1 : D.length - (k + 1) = r := by omega
      rw [hr, reps_succ] at hb2
      have hlenT : (bcells T).length = k * 2 := by rw [bcells_length, HTL.out]
      obtain ⟨x0, x1⟩ := hb2.room2 hlenT
      have f0 := hb2.frozen (k * 2)
      have f1 := hb2.frozen (k * 2 + 1)
      have hws := HB.out.lt
      have hsa := HSA.out
      have hsz0 := HSZ0.out
      have HF := Lib.hid (hb2.fill2 hlenT (.int .i64 D[k].wear) (.slice (some ⟨g1, 0, none⟩) 4 c2))
      have hcs := chg2 (F := (· = w.heap.size)) (a := .int .i64 D[k].wear) (b := .slice (some ⟨g1, 0, none⟩) 4 c2) (Chg.refl (· = w.heap.size) w1) (.inl rfl) (k * 2)
      have hg1 := hok1.1
      have hok := hok1.more (show w.heap.size + 1 ≤ (wr.alloc (.cells #[.int .i64 D[k].wear, .slice A' 4 c'] 67)).heap.size by omega) (Nat.le_refl _)
      have hsz1 : ((w1.setCell ⟨w.heap.size, k * 2, none⟩ (.int .i64 D[k].wear)).setCell ⟨w.heap.size, k * 2 + 1, none⟩ (.slice (some ⟨g1, 0, none⟩) 4 c2)).heap.size = w1.heap.size := by simp [World.setCell]
      have HRW := Lib.hid ((((HR.out.new hc2).more (Nat.le_refl _) hsa).snoc hok hg1).chg hcs (fun i h1 h2 => by omega))
      have HCW := Lib.hid ((HC.out.trans hc2).trans' hcs (fun i hi => .inr (by omega)))
      have HSZ := Lib.hid hsz1
      have HL := Lib.hid (show bksOf (T ++ [⟨g1, c2, D[k].wear, D[k].pages, rest2⟩]) = D.take (k + 1) by
        unfold bksOf at *
        rw [List.map_append, hT.out, List.take_succ_eq_append_getElem hlt]; rfl)
      have HR1 := Lib.hid hr1
      have H42 := Lib.hid h4
      clear hr hr1 hlenT hb2 hok hok1 hcs hsz1 hc2 hg1 c0 c1 h4 hsa hsz0
      go_wp2
      go_roundw
      case rel =>
        refine ⟨k + 1, T ++ [⟨g1, c2, D[k].wear, D[k].pages, rest2⟩], by omega, by go_num, HCW.out, HL, by rw [HSZ.out]; exact HRW.out, ?_⟩
        rw [HR1.out, bcells_snoc, List.append_assoc]
        rw [BkO.cells4 (r := ⟨g1, c2, D[k].wear, D[k].pages, rest2⟩) H42.out]
        exact HF.out
      case measure => simp [intOf]; omega
    · obtain rfl : k = D.length := by omega
      have HB := Lib.hid hb
      have HC := Lib.hid hch
      have HR := Lib.hid hrows
      clear hb hch hrows
      go_wp2
      go_ret
      have hTX : bksOf T = D := by have := hT.out; rwa [List.take_length] at this
      refine ⟨some ⟨w.heap.size, 0, none⟩, D.length, T, rfl, hTX, ?_, HC.out⟩
      have hb := HB.out
      rw [Nat.sub_self, reps_zero, List.append_nil] at hb
      exact DevQ.of_blk hb (HR.out.more (by omega) (Nat.le_refl _)) (Nat.le_refl _) hb.lt hTl (by unfold maxLen; omega)
set_option maxRecDepth 100000 in
set_option maxHeartbeats 2000000 in
theorem l5Copy_any (F : Nat → Prop) (A : Option Addr) (c : Nat) (D : List Bk) (w : World) (h : DevR F w A D) (hD : DvOk D) :
    Calls Try.prog 79 #[.slice A D.length c] w (DevP w D) := by
  obtain ⟨i0, hi, hz0, hz1, hz2⟩ := info_parts info_block
  have hl12 := hD.1.2
  have HE := Lib.hid (own_empty w 67 2 w.heap.size (Nat.le_refl _))
  have HX := Lib.hid hD
  clear hD
  go_enter Try.func79, Try.ntmps79
  go_wp2
  go_loopw [3, 4] (fun v i wr => ∃ (k : Nat) (T : List BkO), k ≤ D.length ∧ i = .int .i64 k ∧ Chg NoB w wr ∧ Hid (bksOf T = D.take k) ∧ BksO w.heap.size wr.heap.size wr T ∧ wr.ownsRow w.heap.size 67 2 v k (bcells T)) (fun _ i _ => D.length - (intOf i).toNat)
  case atStart => exact ⟨0, [], Nat.zero_le _, rfl, (Chg.refl _ _).alloc _, Lib.hid rfl, BksO.nil _ _ _, HE.out⟩
  case round =>
    obtain ⟨wo, rfl⟩ : ∃ wo, wo = wr := ⟨_, rfl⟩
    obtain ⟨k, T, hk, rfl, hch, hT, hrows, how⟩ := hrel
    have hTl : T.length = k := by have := congrArg List.length hT.out; rw [bksOf_length, List.length_take] at this; omega
    have HC := Lib.hid hch
    have HO := Lib.hid how
    have HR := Lib.hid hrows
    have HTL := Lib.hid hTl
    by_cases hlt : k < D.length
    · obtain ⟨bb, o, A', c', rfl, hf, c0, c1, hr, hcc⟩ := (h.new hch) k hlt
      have h4 := (HX.out.2 k hlt).2.1
      rw [h4] at c1
      have HH4 := Lib.hid h4
      have HRD := Lib.hid hr
      have hi0 : (0 : Int) ≤ (k : Int) := Int.natCast_nonneg _
      have hi1 : (k : Int) < (D.length : Int) := by omega
      clear hch how hrows hTl hr h4
      go_wp2_with fail
      refine (l4Copy_any _ A' c' D[k].wear D[k].pages _ HRD.out HH4.out).mono ?_
      rintro e w2 ⟨g1, c2, rest2, rfl, h4, hok1, hc2⟩
      have HOK := Lib.hid hok1
      have HC2 := Lib.hid (HC.out.trans hc2)
      have HO2 := Lib.hid (own_chg HO.out hc2 (fun _ _ x => x))
      have HR2 := Lib.hid (HR.out.new hc2)
      have hsz := HC.out.size
      have hsz2 := HC2.out.size
      have HL := Lib.hid (show bksOf (T ++ [⟨g1, c2, D[k].wear, D[k].pages, rest2⟩]) = D.take (k + 1) by
        unfold bksOf at *
        rw [List.map_append, hT.out, List.take_succ_eq_append_getElem hlt]; rfl)
      have H42 := Lib.hid h4
      clear hok1 hc2 c0 c1 h4
      go_wp2_with (at_builtin; refine wpList_append_own _ rfl (.tmp 12) (.tmp 18) _ rfl w.heap.size 67 i0 (.agg #[.int .i64 0, .slice none 0 0]) 2 32 Try.underlying23 hi hz0 hz1 hz2 rfl (by decide) _ _ _ rfl (HO2.out.alloc _) ⟨w2.heap.size, 0, none⟩ 1 1 [.int .i64 D[k].wear, .slice (some ⟨g1, 0, none⟩) 4 c2] rfl rfl (cells_new _ _ _) (by simp [Value.oneCell']) (by simp only [maxLen]; omega) (by omega) (by simp; omega) ?_; intro v' w5 hown' hgrow _)
      go_roundw
      case rel =>
        refine ⟨k + 1, T ++ [⟨g1, c2, D[k].wear, D[k].pages, rest2⟩], by omega, by go_num, chg_grown (HO2.out.alloc _) hgrow (HC2.out.alloc _) (Nat.le_refl _), HL, ?_, ?_⟩
        · exact ((HR2.out.snoc (HOK.out.more hsz (Nat.le_refl _)) HOK.out.1).grown ((Chg.refl NoB w2).alloc _) (HO2.out.alloc _) hgrow (Nat.le_refl _))
        · rw [bcells_snoc]
          have ho := hown'
          rw [← H42.out] at ho
          exact ho
      case measure => simp [intOf]; omega
    · obtain rfl : k = D.length := by omega
      clear hch how hrows hTl
      go_wp2_with fail
      go_ret
      obtain ⟨A, c, rfl, hO⟩ := DevQ.of_row HO.out HTL.out HR.out
      have hTX : bksOf T = D := by have := hT.out; rwa [List.take_length] at this
      exact ⟨A, c, T, rfl, hTX, hO, HC.out⟩
end Go.Proofs.Ytpiojofmflfkkaa
/- WriteBlock and Program of the reference, where what they take is valid. -/
namespace Go.Proofs.Ytpiojofmflfkkaa
open Go.RowKit
theorem pgs_split {ps : List Pg} {k : Nat} (hk : k < ps.length) : pgs ps = pgs (ps.take k) ++ .bool ps[k].full :: .int .i64 ps[k].file :: .int .i64 ps[k].place :: .int .i64 ps[k].value :: .int .i64 ps[k].stamp :: pgs (ps.drop (k + 1)) := by
  conv => lhs; rw [← List.take_append_drop k ps, List.drop_eq_getElem_cons hk]
  rw [pgs_append]
  rfl
theorem pgs_set {ps : List Pg} {k : Nat} (hk : k < ps.length) (p : Pg) : pgs (ps.set k p) = pgs (ps.take k) ++ .bool p.full :: .int .i64 p.file :: .int .i64 p.place :: .int .i64 p.value :: .int .i64 p.stamp :: pgs (ps.drop (k + 1)) := by
  rw [List.set_eq_take_append_cons_drop, if_pos hk, pgs_append]
  rfl
theorem chg5k {F : Nat → Prop} {w W : World} {g : Nat} {a b c d e : Value} (h : Chg F w W) (hg : F g ∨ w.heap.size ≤ g) (k : Nat) :
    Chg F w (((((W.setCell ⟨g, k, none⟩ a).setCell ⟨g, k + 1, none⟩ b).setCell ⟨g, k + 2, none⟩ c).setCell ⟨g, k + 3, none⟩ d).setCell ⟨g, k + 4, none⟩ e) :=
  ((((h.setCell (p := ⟨g, k, none⟩) hg _).setCell (p := ⟨g, k + 1, none⟩) hg _).setCell (p := ⟨g, k + 2, none⟩) hg _).setCell (p := ⟨g, k + 3, none⟩) hg _).setCell (p := ⟨g, k + 4, none⟩) hg _
theorem writeBlock_full {b : Bk} {p : Pg} (h : BkOk b) (hp : PgOk p) (hf : p.full = true) (hl : ¬ lead b.pages < 4) : writeBlock b p = (b, -1) := by
  unfold writeBlock; rw [if_pos ⟨h, hp, hf⟩, if_neg (by rw [h.2.1]; exact hl)]
theorem writeBlock_free {b : Bk} {p : Pg} (h : BkOk b) (hp : PgOk p) (hf : p.full = true) (hl : lead b.pages < 4) : writeBlock b p = (⟨b.wear, b.pages.set (lead b.pages) p⟩, (lead b.pages : Int)) := by
  unfold writeBlock; rw [if_pos ⟨h, hp, hf⟩, if_pos (by rw [h.2.1]; exact hl)]
theorem next_full {b : Bk} (h : BkOk b) (hl : ¬ lead b.pages < 4) : next b = -1 := by unfold next; rw [if_neg (fun hh => hl (by rw [← h.2.1]; exact hh.2))]
theorem next_free {b : Bk} (h : BkOk b) (hl : lead b.pages < 4) : next b = (lead b.pages : Int) := by unfold next; rw [if_pos ⟨h, by rw [h.2.1]; exact hl⟩]
theorem getD_get {α : Type} (l : List α) (d : α) {k : Nat} (h : k < l.length) : l.getD k d = l[k] := by rw [List.getD_eq_getElem?_getD, List.getElem?_eq_getElem h, Option.getD_some]
/-- A page laid at the head of the free ones leaves the block valid. -/
theorem PgsOk.put {ps : List Pg} (h : PgsOk ps) {p : Pg} (hp : PgOk p) (hl : lead ps < ps.length) (hf : p.full = true) : PgsOk (ps.set (lead ps) p) := fun k hk => by
  rw [List.length_set] at hk
  have hfree := lead_free ps hl
  constructor
  · rw [List.getElem_set]
    split
    · exact hp
    · exact (h k hk).1
  · intro h0 hkf
    rw [getD_get _ _ (by rw [List.length_set]; omega), List.getElem_set]
    split
    · exact hf
    · rename_i hne
      rw [List.getElem_set] at hkf
      split at hkf
      · rename_i he
        exact lead_full ps (k - 1) (by omega) (by omega)
      · have := (h k hk).2 h0 hkf
        rwa [getD_get _ _ (by omega)] at this
theorem BkOk.write {b : Bk} {p : Pg} (h : BkOk b) (hp : PgOk p) (hf : p.full = true) : BkOk (writeBlock b p).1 := by
  by_cases hl : lead b.pages < 4
  · rw [writeBlock_free h hp hf hl]
    exact ⟨h.1, by rw [List.length_set]; exact h.2.1, h.2.2.put hp (by rw [h.2.1]; exact hl) hf⟩
  · rw [writeBlock_full h hp hf hl]
    exact h
theorem writeBlock_wear {b : Bk} {p : Pg} (h : BkOk b) (hp : PgOk p) (hf : p.full = true) : (writeBlock b p).1.wear = b.wear := by
  by_cases hl : lead b.pages < 4
  · rw [writeBlock_free h hp hf hl]
  · rw [writeBlock_full h hp hf hl]
theorem writeBlock_num {b : Bk} {p : Pg} (h : BkOk b) (hp : PgOk p) (hf : p.full = true) : -1 ≤ (writeBlock b p).2 ∧ (writeBlock b p).2 ≤ 3 := by
  by_cases hl : lead b.pages < 4
  · rw [writeBlock_free h hp hf hl]; constructor <;> simp only <;> omega
  · rw [writeBlock_full h hp hf hl]; constructor <;> simp only <;> omega
theorem DvOk.set {D : List Bk} (h : DvOk D) {k : Nat} {b : Bk} (hb : BkOk b) : DvOk (D.set k b) := by
  refine ⟨by rw [List.length_set]; exact h.1, fun j hj => ?_⟩
  rw [List.length_set] at hj
  rw [List.getElem_set]
  split
  · exact hb
  · exact h.2 j hj
theorem program_yes {D : List Bk} {k : Nat} {p : Pg} (h : DvOk D) (hk : k < D.length) (hp : PgOk p) (hf : p.full = true) :
    program D (k : Int) p = if 0 ≤ (writeBlock D[k] p).2 then (D.set k (writeBlock D[k] p).1, 4 * (k : Int) + (writeBlock D[k] p).2) else (D, -1) := by
  unfold program
  rw [if_pos ⟨h, ⟨by omega, by omega⟩, hp, hf⟩, Int.toNat_natCast, getD_get _ _ hk]
theorem DvOk.program {D : List Bk} {k : Nat} {p : Pg} (h : DvOk D) (hk : k < D.length) (hp : PgOk p) (hf : p.full = true) : DvOk (program D (k : Int) p).1 ∧ (program D (k : Int) p).1.length = D.length := by
  rw [program_yes h hk hp hf]
  split
  · exact ⟨h.set ((h.2 k hk).write hp hf), by rw [List.length_set]⟩
  · exact ⟨h, rfl⟩
def WriteBP (w : World) (b : Bk) (p : Pg) (e : Ending) (w' : World) : Prop :=
  ∃ g c rest, e = .returned (.tuple #[.agg #[.int .i64 b.wear, .slice (some ⟨g, 0, none⟩) 4 c], .int .i64 (writeBlock b p).2]) ∧ BkO.ok w.heap.size w'.heap.size w' ⟨g, c, b.wear, (writeBlock b p).1.pages, rest⟩ ∧ Chg NoB w w'
set_option maxRecDepth 100000 in
set_option maxHeartbeats 4000000 in
theorem sWriteBlock_any (F : Nat → Prop) (A : Option Addr) (c : Nat) (b : Bk) (p : Pg) (w : World) (h : Rd F w A (pgs b.pages)) (hb : BkOk b) (hp : PgOk p) (hf : p.full = true) :
    Calls Try.prog 155 #[.agg #[.int .i64 b.wear, .slice A 4 c], pval p] w (WriteBP w b p) := by
  obtain ⟨fu, fi, pl, va, st⟩ := p
  obtain rfl : fu = true := hf
  obtain ⟨q1, q2, q3⟩ := lit2 w 67 80 #[.int .i64 b.wear, .slice A 4 c] #[.bool true, .int .i64 fi, .int .i64 pl, .int .i64 va, .int .i64 st]
  obtain ⟨w2, hw2⟩ : ∃ w2, (w.alloc (.cells #[.int .i64 b.wear, .slice A 4 c] 67)).alloc (.cells #[.bool true, .int .i64 fi, .int .i64 pl, .int .i64 va, .int .i64 st] 80) = w2 := ⟨_, rfl⟩
  have hsz2 : w2.heap.size = w.heap.size + 1 + 1 := by rw [← hw2]; simp [World.size_alloc]
  have hca := (Chg.refl NoB w2).alloc (.cells #[.int .i64 0, .slice none 0 0] 67)
  have q4 := Blk.new w2 67 #[.int .i64 0, .slice none 0 0]
  rw [hw2] at q1 q2 q3
  have HV := Lib.hid (show ∀ wq, Rd F wq A (pgs b.pages) → Calls Try.prog 126 #[.agg #[.int .i64 b.wear, .slice A 4 c]] wq fun e w' => e = .returned (.bool true) ∧ Chg NoB wq w' from fun wq hq => by
    have := sBlockValid_t F A c b wq hq hb
    rwa [hb.2.1] at this)
  have HN := Lib.hid (show ∀ wq, Rd F wq A (pgs b.pages) → Calls Try.prog 135 #[.agg #[.int .i64 b.wear, .slice A 4 c]] wq fun e w' => e = .returned (.int .i64 (next b)) ∧ Chg NoB wq w' from fun wq hq => by
    have := sBlockNext_any F A c b wq hq (by rw [hb.2.1]; omega)
    rwa [hb.2.1] at this)
  have HB1 := Lib.hid (q1.chg hca (fun x => x))
  have HB2 := Lib.hid (q2.chg hca (fun x => x))
  have HB4 := Lib.hid q4
  have HC3 := Lib.hid (q3.trans hca)
  have HR3 := Lib.hid (h.new (q3.trans hca))
  have HW2 := Lib.hid hw2
  have HB := Lib.hid hb
  have HP := Lib.hid hp
  have HSZ2 := Lib.hid hsz2
  clear q1 q2 q3 q4 h hb hp hca hw2 hsz2
  go_enter Try.func155, Try.ntmps155
  go_wp2_with fail
  rw [HW2.out]
  refine (HV.out _ HR3.out).mono ?_
  rintro e w4 ⟨rfl, hc1⟩
  obtain ⟨R0, hR0⟩ : ∃ R0, w2.heap.size = R0 := ⟨_, rfl⟩
  have hR0' := HSZ2.out
  rw [hR0] at HB4 hR0'
  rw [show w.heap.size + 1 + 1 = R0 from hR0'.symm]
  have hb1 := HB1.out.chg hc1 (fun x => x)
  have hb2 := HB2.out.chg hc1 (fun x => x)
  have v0 : w4.cell? ⟨w.heap.size, 0, none⟩ = some (.int .i64 b.wear) := (hb1.cell _).trans rfl
  have v1 : w4.cell? ⟨w.heap.size, 1, none⟩ = some (.slice A 4 c) := (hb1.cell _).trans rfl
  have p0 : w4.cell? ⟨(w.heap.size + 1), 0, none⟩ = some (.bool true) := (hb2.cell _).trans rfl
  have p1 : w4.cell? ⟨(w.heap.size + 1), 1, none⟩ = some (.int .i64 fi) := (hb2.cell _).trans rfl
  have p2 : w4.cell? ⟨(w.heap.size + 1), 2, none⟩ = some (.int .i64 pl) := (hb2.cell _).trans rfl
  have p3 : w4.cell? ⟨(w.heap.size + 1), 3, none⟩ = some (.int .i64 va) := (hb2.cell _).trans rfl
  have p4 : w4.cell? ⟨(w.heap.size + 1), 4, none⟩ = some (.int .i64 st) := (hb2.cell _).trans rfl
  have HB42 := Lib.hid (HB4.out.chg hc1 (fun x => x))
  have HB12 := Lib.hid hb1
  have HB22 := Lib.hid hb2
  have HC4 := Lib.hid (HC3.out.trans hc1)
  have HR4 := Lib.hid (HR3.out.new hc1)
  have HR0 := Lib.hid hR0'
  clear hb1 hb2 hc1 hR0 hR0' HB1 HB2 HC3 HR3 HW2 HSZ2 HB4
  go_wp2_with fail
  refine (sPageValid_t ⟨true, fi, pl, va, st⟩ _ HP.out).mono ?_
  rintro e w5 ⟨rfl, hc1⟩
  have hb1 := HB12.out.chg hc1 (fun x => x)
  have hb2 := HB22.out.chg hc1 (fun x => x)
  clear v0 v1 p0 p1 p2 p3 p4
  have v0 : w5.cell? ⟨w.heap.size, 0, none⟩ = some (.int .i64 b.wear) := (hb1.cell _).trans rfl
  have v1 : w5.cell? ⟨w.heap.size, 1, none⟩ = some (.slice A 4 c) := (hb1.cell _).trans rfl
  have p0 : w5.cell? ⟨(w.heap.size + 1), 0, none⟩ = some (.bool true) := (hb2.cell _).trans rfl
  have p1 : w5.cell? ⟨(w.heap.size + 1), 1, none⟩ = some (.int .i64 fi) := (hb2.cell _).trans rfl
  have p2 : w5.cell? ⟨(w.heap.size + 1), 2, none⟩ = some (.int .i64 pl) := (hb2.cell _).trans rfl
  have p3 : w5.cell? ⟨(w.heap.size + 1), 3, none⟩ = some (.int .i64 va) := (hb2.cell _).trans rfl
  have p4 : w5.cell? ⟨(w.heap.size + 1), 4, none⟩ = some (.int .i64 st) := (hb2.cell _).trans rfl
  have HB43 := Lib.hid (HB42.out.chg hc1 (fun x => x))
  have HB13 := Lib.hid hb1
  have HB23 := Lib.hid hb2
  have HC5 := Lib.hid (HC4.out.trans hc1)
  have HR5 := Lib.hid (HR4.out.new hc1)
  clear hb1 hb2 hc1 HB12 HB22 HC4 HR4 HB42
  go_wp2_with fail
  refine (l4Copy_any _ A c b.wear b.pages _ HR5.out HB.out.2.1).mono ?_
  rintro e w6 ⟨g3, c3, rest3, rfl, h43, hok3, hc6⟩
  have hca := (Chg.refl NoB w6).alloc (.cells #[.int .i64 b.wear, .slice (some ⟨g3, 0, none⟩) 4 c3] 67)
  have hv7 := Blk.new w6 67 #[.int .i64 b.wear, .slice (some ⟨g3, 0, none⟩) 4 c3]
  have hc7 := hc6.trans hca
  have hb1 := HB13.out.chg hc7 (fun x => x)
  have hb2 := HB23.out.chg hc7 (fun x => x)
  have hb4 := HB43.out.chg hc7 (fun x => x)
  have hok7 := hok3.chg hca (fun x => x)
  have hC7 := HC5.out.trans hc7
  have hR7 := HR5.out.new hc7
  have hs5 := HC5.out.size
  have hs5b := HB43.out.lt
  clear v0 v1 p0 p1 p2 p3 p4
  have H43 := Lib.hid h43
  have HL43 := Lib.hid (HN.out _ hR7)
  clear h43 hca
  have v0 : (w6.alloc (.cells #[.int .i64 b.wear, .slice (some ⟨g3, 0, none⟩) 4 c3] 67)).cell? ⟨w.heap.size, 0, none⟩ = some (.int .i64 b.wear) := (hb1.cell _).trans rfl
  have v1 : (w6.alloc (.cells #[.int .i64 b.wear, .slice (some ⟨g3, 0, none⟩) 4 c3] 67)).cell? ⟨w.heap.size, 1, none⟩ = some (.slice A 4 c) := (hb1.cell _).trans rfl
  have HB17 := Lib.hid hb1
  have HB27 := Lib.hid hb2
  have HB47 := Lib.hid hb4
  have HOK7 := Lib.hid hok7
  have HV7 := Lib.hid hv7
  have HC7 := Lib.hid hC7
  have HGL := Lib.hid (show w5.heap.size ≤ g3 from hok3.1)
  clear hb1 hb2 hb4 hok7 hv7 hC7 hR7 hc7 hc6 hok3
  go_wp2_with fail
  refine HL43.out.mono ?_
  rintro e w8 ⟨rfl, hc8⟩
  have hb2 := HB27.out.chg hc8 (fun x => x)
  have hb4 := HB47.out.chg hc8 (fun x => x)
  have hv8 := HV7.out.chg hc8 (fun x => x)
  have hok8 := HOK7.out.chg hc8 (fun x => x)
  obtain ⟨V, hV⟩ : ∃ V, w6.heap.size = V := ⟨_, rfl⟩
  rw [hV] at hv8 ⊢
  have hg3V : g3 < V := by rw [← hV]; exact HOK7.out.2.1
  have hs8 := hc8.size
  have p0 : w8.cell? ⟨(w.heap.size + 1), 0, none⟩ = some (.bool true) := (hb2.cell _).trans rfl
  have p1 : w8.cell? ⟨(w.heap.size + 1), 1, none⟩ = some (.int .i64 fi) := (hb2.cell _).trans rfl
  have p2 : w8.cell? ⟨(w.heap.size + 1), 2, none⟩ = some (.int .i64 pl) := (hb2.cell _).trans rfl
  have p3 : w8.cell? ⟨(w.heap.size + 1), 3, none⟩ = some (.int .i64 va) := (hb2.cell _).trans rfl
  have p4 : w8.cell? ⟨(w.heap.size + 1), 4, none⟩ = some (.int .i64 st) := (hb2.cell _).trans rfl
  have x0 : w8.cell? ⟨R0, 0, none⟩ = some (.int .i64 0) := (hb4.cell _).trans rfl
  have f0 := hb4.frozen 0
  have x1 : w8.cell? ⟨R0, 1, none⟩ = some (.slice none 0 0) := (hb4.cell _).trans rfl
  have f1 := hb4.frozen 1
  have y0 : w8.cell? ⟨V, 0, none⟩ = some (.int .i64 b.wear) := (hv8.cell _).trans rfl
  have y1 : w8.cell? ⟨V, 1, none⟩ = some (.slice (some ⟨g3, 0, none⟩) 4 c3) := (hv8.cell _).trans rfl
  have hg3w5 := HGL.out
  have HC8 := Lib.hid (HC7.out.trans hc8)
  have HOK8 := Lib.hid hok8
  have HV8 := Lib.hid hv8
  have HB48 := Lib.hid hb4
  have HS8 := Lib.hid (show g3 < w8.heap.size by have : g3 < _ := HOK7.out.2.1; have := hv8.lt; omega)
  clear v0 v1 hb2 hb4 hv8 hok8 hc8 hV hs8
  by_cases hl : lead b.pages < 4
  case neg =>
    have HQ := Lib.hid (writeBlock_full HB.out HP.out rfl hl)
    rw [next_full HB.out hl]
    go_wp2_with fail
    (try simp only [Exit.inBlock, Exit.then])
    refine bodyPost_ret (v := .tuple #[.agg #[.int .i64 b.wear, .slice (some ⟨g3, 0, none⟩) 4 c3], .int .i64 (-1)]) (by simp [results, Try.results155, go_sem, *]) rfl ?_
    have hcs := chg2' (F := (· = R0)) (a := .int .i64 b.wear) (b := .slice (some ⟨g3, 0, none⟩) 4 c3) (Chg.refl (· = R0) w8) (.inl rfl)
    unfold WriteBP
    rw [HQ.out]
    have hok := HOK8.out
    have hr0 := HR0.out
    have hge := HS8.out
    exact ⟨g3, c3, rest3, rfl, ⟨by show w.heap.size ≤ g3; omega, by simpa [World.setCell] using hge, hok.2.2.1.chg hcs (by show ¬ (g3 = R0); omega), hok.2.2.2⟩, HC8.out.own hcs (by omega)⟩
  have HQ := Lib.hid (writeBlock_free HB.out HP.out rfl hl)
  rw [next_free HB.out hl]
  obtain ⟨n, hn⟩ : ∃ n, lead b.pages = n := ⟨_, rfl⟩
  have HNL := Lib.hid hn
  rw [hn] at hl ⊢
  have hk0 : (0 : Int) ≤ (n : Int) := Int.natCast_nonneg _
  have hk1 : (n : Int) < 4 := by omega
  have hnp : n < b.pages.length := by rw [HB.out.2.1]; exact hl
  have hbg : Blk w8 g3 80 (pgs b.pages ++ rest3).toArray := HOK8.out.2.2.1
  have hlen : (pgs (b.pages.take n)).length = n * 5 := by rw [pgs_length, List.length_take]; omega
  rw [pgs_split hnp, List.append_assoc] at hbg
  obtain ⟨r0, r1, r2, r3, r4⟩ := hbg.room5 hlen
  have s0 := hbg.frozen (n * 5)
  have s1 := hbg.frozen (n * 5 + 1)
  have s2 := hbg.frozen (n * 5 + 2)
  have s3 := hbg.frozen (n * 5 + 3)
  have s4 := hbg.frozen (n * 5 + 4)
  have HF := Lib.hid (hbg.fill5 hlen (.bool true) (.int .i64 fi) (.int .i64 pl) (.int .i64 va) (.int .i64 st))
  have hne1 : g3 ≠ V := by omega
  have hne2 : V ≠ g3 := by omega
  have hne3 : g3 ≠ R0 := by omega
  have hne4 : R0 ≠ g3 := by omega
  have hne5 : V ≠ R0 := by omega
  have hne6 : R0 ≠ V := by omega
  have HNP := Lib.hid hnp
  clear hbg hn hlen
  go_wp2_with fail
  (try simp only [Exit.inBlock, Exit.then])
  refine bodyPost_ret (v := .tuple #[.agg #[.int .i64 b.wear, .slice (some ⟨g3, 0, none⟩) 4 c3], .int .i64 (n : Int)]) (by simp [results, Try.results155, go_sem, *]) rfl ?_
  obtain ⟨w9, hw9⟩ : ∃ w9, (((((w8.setCell ⟨g3, n * 5, none⟩ (.bool true)).setCell ⟨g3, n * 5 + 1, none⟩ (.int .i64 fi)).setCell ⟨g3, n * 5 + 2, none⟩ (.int .i64 pl)).setCell ⟨g3, n * 5 + 3, none⟩ (.int .i64 va)).setCell ⟨g3, n * 5 + 4, none⟩ (.int .i64 st)) = w9 := ⟨_, rfl⟩
  have hc9 := chg5k (F := (· = g3)) (a := .bool true) (b := .int .i64 fi) (c := .int .i64 pl) (d := .int .i64 va) (e := .int .i64 st) (Chg.refl (· = g3) w8) (.inl rfl) (n * 5)
  have hb9 := HF.out
  rw [hw9] at hc9 hb9 ⊢
  have hcs := chg2' (F := (· = R0)) (a := .int .i64 b.wear) (b := .slice (some ⟨g3, 0, none⟩) 4 c3) (Chg.refl (· = R0) w9) (.inl rfl)
  unfold WriteBP
  rw [HQ.out, HNL.out]
  have hr0 := HR0.out
  have hge := HS8.out
  have hs9 := hc9.size
  have hok := HOK8.out
  refine ⟨g3, c3, rest3, rfl, ⟨by show w.heap.size ≤ g3; omega, by show g3 < _; simp only [World.size_setCell]; omega, ?_, by show (b.pages.set n ⟨true, fi, pl, va, st⟩).length ≤ c3; rw [List.length_set]; exact hok.2.2.2⟩, (HC8.out.own hc9 (by omega)).own hcs (by omega)⟩
  refine Blk.chg ?_ hcs (by show ¬ (g3 = R0); omega)
  show Blk w9 g3 80 (pgs (b.pages.set n ⟨true, fi, pl, va, st⟩) ++ rest3).toArray
  rw [pgs_set HNP.out, List.append_assoc]
  exact hb9
end Go.Proofs.Ytpiojofmflfkkaa
/- Program, HeadOf, l6Set of the reference, where what they take is valid. -/
namespace Go.Proofs.Ytpiojofmflfkkaa
open Go.RowKit
theorem ok_box {G : Nat → Prop} {B B' : Nat} {w w' : World} {r : BkO} (h : r.ok B w.heap.size w) (hR : RBox G B' 67 w w') (hG : ∀ k, B ≤ k → ¬ G k) : r.ok B w'.heap.size w' := by
  have hb := hR.blk h.2.2.1 (hG _ h.1) (.inr ty_page_block)
  exact ⟨h.1, Nat.lt_of_lt_of_le h.2.1 hR.chg.size, hb, h.2.2.2⟩
def ProgP (w : World) (D : List Bk) (k : Nat) (p : Pg) (e : Ending) (w' : World) : Prop :=
  ∃ A c T, e = .returned (.tuple #[.slice A D.length c, .int .i64 (program D (k : Int) p).2]) ∧ bksOf T = (program D (k : Int) p).1 ∧ DevQ w.heap.size w'.heap.size w' A c T ∧ Chg NoB w w'
set_option maxRecDepth 100000 in
set_option maxHeartbeats 4000000 in
theorem sProgram_any (F : Nat → Prop) (A : Option Addr) (c : Nat) (D : List Bk) (k : Nat) (p : Pg) (w : World) (h : DevR F w A D) (hd : DvOk D) (hk : k < D.length) (hp : PgOk p) (hf : p.full = true) :
    Calls Try.prog 138 #[.slice A D.length c, .int .i64 k, pval p] w (ProgP w D k p) := by
  obtain ⟨fu, fi, pl, va, st⟩ := p
  obtain rfl : fu = true := hf
  obtain ⟨P, hPP⟩ : ∃ P : Pg, P = ⟨true, fi, pl, va, st⟩ := ⟨_, rfl⟩
  have HPP := Lib.hid hPP
  have hca := (Chg.refl NoB w).alloc (.cells #[.bool true, .int .i64 fi, .int .i64 pl, .int .i64 va, .int .i64 st] 80)
  have HB := Lib.hid (Blk.new w 80 #[.bool true, .int .i64 fi, .int .i64 pl, .int .i64 va, .int .i64 st])
  have HC := Lib.hid hca
  have HR := Lib.hid (h.lt.new hca)
  have HD := Lib.hid hd
  have HP := Lib.hid hp
  have hl := hd.1
  have hk0 : (0 : Int) ≤ (k : Int) := Int.natCast_nonneg _
  have hk1 : (k : Int) < (D.length : Int) := by omega
  have h1 : (1 : Int) ≤ (D.length : Int) := by omega
  have h2 : (D.length : Int) ≤ 12 := by omega
  have HBK := Lib.hid (hd.2 k hk)
  have HWN := Lib.hid (writeBlock_num (hd.2 k hk) hp rfl)
  have HWW := Lib.hid (writeBlock_wear (hd.2 k hk) hp rfl)
  have HPR := Lib.hid (program_yes hd hk hp rfl)
  rw [← hPP] at HWN HWW HPR ⊢
  clear hca h hd hp hPP
  unfold pval
  rw [show P.full = true by rw [HPP.out], show P.file = fi by rw [HPP.out], show P.place = pl by rw [HPP.out], show P.value = va by rw [HPP.out], show P.stamp = st by rw [HPP.out]]
  go_enter Try.func138, Try.ntmps138
  go_wp2_with fail
  refine (sDeviceValid_t _ A c D _ HR.out HD.out).mono ?_
  rintro e w1 ⟨rfl, hc1⟩
  have HC1 := Lib.hid (HC.out.trans hc1)
  have HR1 := Lib.hid (HR.out.new hc1)
  have hb1 := HB.out.chg hc1 (fun x => x)
  have p0 : w1.cell? ⟨w.heap.size, 0, none⟩ = some (.bool true) := (hb1.cell _).trans rfl
  have p1 : w1.cell? ⟨w.heap.size, 1, none⟩ = some (.int .i64 fi) := (hb1.cell _).trans rfl
  have p2 : w1.cell? ⟨w.heap.size, 2, none⟩ = some (.int .i64 pl) := (hb1.cell _).trans rfl
  have p3 : w1.cell? ⟨w.heap.size, 3, none⟩ = some (.int .i64 va) := (hb1.cell _).trans rfl
  have p4 : w1.cell? ⟨w.heap.size, 4, none⟩ = some (.int .i64 st) := (hb1.cell _).trans rfl
  have HB1 := Lib.hid hb1
  clear hc1 hb1
  go_wp2_with fail
  refine (l1In_t (k : Int) 0 ((D.length : Int) - 1) _ ⟨by omega, by omega⟩).mono ?_
  rintro e w' ⟨rfl, rfl⟩
  go_wp2_with fail
  refine (sPageValid_t ⟨true, fi, pl, va, st⟩ _ HP.out).mono ?_
  rintro e w2 ⟨rfl, hc2⟩
  have HC2 := Lib.hid (HC1.out.trans hc2)
  have HR2 := Lib.hid (HR1.out.new hc2)
  have hb2 := HB1.out.chg hc2 (fun x => x)
  clear p0 p1 p2 p3 p4
  have p0 : w2.cell? ⟨w.heap.size, 0, none⟩ = some (.bool true) := (hb2.cell _).trans rfl
  have p1 : w2.cell? ⟨w.heap.size, 1, none⟩ = some (.int .i64 fi) := (hb2.cell _).trans rfl
  have p2 : w2.cell? ⟨w.heap.size, 2, none⟩ = some (.int .i64 pl) := (hb2.cell _).trans rfl
  have p3 : w2.cell? ⟨w.heap.size, 3, none⟩ = some (.int .i64 va) := (hb2.cell _).trans rfl
  have p4 : w2.cell? ⟨w.heap.size, 4, none⟩ = some (.int .i64 st) := (hb2.cell _).trans rfl
  have HB2 := Lib.hid hb2
  clear hc2 hb2 HC HR HB HC1 HR1 HB1
  go_wp2_with fail
  refine (l5Copy_any _ A c D _ HR2.out HD.out).mono ?_
  rintro e w4 ⟨A2, c2, T, rfl, hT, hO2, hc4⟩
  have hTl : T.length = D.length := by rw [← hT, bksOf_length]
  obtain ⟨g, rest, rfl, hgB, hgE, hbg⟩ := hO2.blk (by omega)
  obtain ⟨bb, o, A', c', rfl, hfb, c0, c1, hr, hcc⟩ := (HR2.out.new hc4) k hk
  rw [HBK.out.2.1] at c1
  have hb4 := HB2.out.chg hc4 (fun x => x)
  clear p0 p1 p2 p3 p4
  have z0 : w4.cell? ⟨w.heap.size, 0, none⟩ = some (.bool true) := (hb4.cell _).trans rfl
  have z1 : w4.cell? ⟨w.heap.size, 1, none⟩ = some (.int .i64 fi) := (hb4.cell _).trans rfl
  have z2 : w4.cell? ⟨w.heap.size, 2, none⟩ = some (.int .i64 pl) := (hb4.cell _).trans rfl
  have z3 : w4.cell? ⟨w.heap.size, 3, none⟩ = some (.int .i64 va) := (hb4.cell _).trans rfl
  have z4 : w4.cell? ⟨w.heap.size, 4, none⟩ = some (.int .i64 st) := (hb4.cell _).trans rfl
  have HT := Lib.hid hT
  have HTL := Lib.hid hTl
  have HO4 := Lib.hid hO2
  have HBG := Lib.hid hbg
  have HGB := Lib.hid (And.intro hgB hgE)
  have HC4 := Lib.hid (HC2.out.trans hc4)
  have HS2 := Lib.hid HC2.out.size
  have HRD := Lib.hid hr
  clear hO2 hbg hgB hgE hT hTl hc4 hr hb4 HB2 HC2 HR2
  go_wp2_with fail
  refine wp_region_rg (WInv := fun _ m w5 => Chg (NoB) w4 w5 ∧ BoxI w4.heap.size 67 #[.int .i64 0, .slice none 0 0] 9 10 7 m w5) (R := RBox (NoB) w4.heap.size 67) (Post := PL [fun v w => v = .slice (some ⟨bb, o, none⟩) D.length c, fun v w => v = .int .i64 (k : Int), fun v w => v = .pointer (some ⟨bb, o + k * 2, none⟩), fun v w => v = .agg #[.int .i64 D[k].wear, .slice A' 4 c'], fun v w => v = .agg #[.bool true, .int .i64 fi, .int .i64 pl, .int .i64 va, .int .i64 st], fun v w => ∃ g3 : Nat, ∃ c3 : Nat, ∃ rest3 : List Value, v = .tuple #[.agg #[.int .i64 D[k].wear, .slice (some ⟨g3, 0, none⟩) 4 c3], .int .i64 (writeBlock D[k] P).2] ∧ BkO.ok w4.heap.size w.heap.size w ⟨g3, c3, D[k].wear, (writeBlock D[k] P).1.pages, rest3⟩, fun v w => ∃ g3 : Nat, ∃ c3 : Nat, ∃ rest3 : List Value, v = .tuple #[.agg #[.int .i64 D[k].wear, .slice (some ⟨g3, 0, none⟩) 4 c3], .int .i64 (writeBlock D[k] P).2] ∧ BkO.ok w4.heap.size w.heap.size w ⟨g3, c3, D[k].wear, (writeBlock D[k] P).1.pages, rest3⟩, fun v w => ∃ g3 : Nat, ∃ c3 : Nat, ∃ rest3 : List Value, v = .agg #[.int .i64 D[k].wear, .slice (some ⟨g3, 0, none⟩) 4 c3] ∧ BkO.ok w4.heap.size w.heap.size w ⟨g3, c3, D[k].wear, (writeBlock D[k] P).1.pages, rest3⟩, fun v w => v = .int .i64 (writeBlock D[k] P).2, fun _ _ => True, fun _ _ => True, fun v w => v = .int .i64 (writeBlock D[k] P).2]) (by kernel_rfl) (by kernel_rfl) ?_ (pl_stab ⟨(fun _ _ _ h _ => h), (fun _ _ _ h _ => h), (fun _ _ _ h _ => h), (fun _ _ _ h _ => h), (fun _ _ _ h _ => h), (fun _ _ _ ⟨g3, c3, rest3, hv, hok⟩ hR => ⟨g3, c3, rest3, hv, (ok_box hok hR (fun _ _ x => x))⟩), (fun _ _ _ ⟨g3, c3, rest3, hv, hok⟩ hR => ⟨g3, c3, rest3, hv, (ok_box hok hR (fun _ _ x => x))⟩), (fun _ _ _ ⟨g3, c3, rest3, hv, hok⟩ hR => ⟨g3, c3, rest3, hv, (ok_box hok hR (fun _ _ x => x))⟩), (fun _ _ _ h _ => h), (fun _ _ _ _ _ => trivial), (fun _ _ _ _ _ => trivial), (fun _ _ _ h _ => h), trivial⟩) ⟨(Chg.refl _ _).drew, BoxI.start⟩ ?_ ?_
  · exact fun _ _ _ _ h _ _ => h
  · refine ⟨?_, ?_, ?_, ?_, ?_, ?_, ?_, ?_, ?_, ?_, ?_, ?_, trivial⟩
    · rintro kc m a w5 hkc ⟨hch, hbx⟩ hm hn
      obtain ⟨h0, -⟩ := hn
      have e0 : a.tmps[0]?.getD undef = .slice (some ⟨bb, o, none⟩) D.length c := h0
      exact rg_val (v := .slice (some ⟨bb, o, none⟩) D.length c) (by simp [execOp, go_sem, e0]) rfl ⟨hch, hbx.keep (by decide) (by decide) hm (Chg.refl NoB _) (fun _ _ x => x)⟩ (Chg.refl _ _) rfl
    · rintro kc m a w5 hkc ⟨hch, hbx⟩ hm hn
      obtain ⟨h0, -⟩ := hn
      have e0 : a.tmps[1]?.getD undef = .int .i64 (k : Int) := h0
      exact rg_val (v := .int .i64 (k : Int)) (by simp [execOp, go_sem, e0]) rfl ⟨hch, hbx.keep (by decide) (by decide) hm (Chg.refl NoB _) (fun _ _ x => x)⟩ (Chg.refl _ _) rfl
    · rintro kc m a w5 hkc ⟨hch, hbx⟩ hm hn
      obtain ⟨⟨_, e0, m0, rfl⟩, ⟨_, e1, m1, rfl⟩, -⟩ := hn
      exact rg_val (v := .pointer (some ⟨bb, o + k * 2, none⟩)) (by simp [execOp, go_sem, e0, e1]; exact fun hh => absurd hh (by omega)) rfl ⟨hch, hbx.keep (by decide) (by decide) hm (Chg.refl NoB _) (fun _ _ x => x)⟩ (Chg.refl _ _) rfl
    · rintro kc m a w5 hkc ⟨hch, hbx⟩ hm hn
      obtain ⟨⟨_, e0, m0, rfl⟩, -⟩ := hn
      have y0 := hch.cell c0 (fun x => x)
      have y1 := hch.cell c1 (fun x => x)
      exact rg_val (v := .agg #[.int .i64 D[k].wear, .slice A' 4 c']) (by simp [execOp, go_sem, e0, y0, y1]) rfl ⟨hch, hbx.keep (by decide) (by decide) hm (Chg.refl NoB _) (fun _ _ x => x)⟩ (Chg.refl _ _) rfl
    · rintro kc m a w5 hkc ⟨hch, hbx⟩ hm hn
      obtain ⟨h0, -⟩ := hn
      have e0 : a.tmps[5]?.getD undef = .pointer (some ⟨w.heap.size, 0, none⟩) := h0
      have y0 := hch.cell z0 (fun x => x)
      have y1 := hch.cell z1 (fun x => x)
      have y2 := hch.cell z2 (fun x => x)
      have y3 := hch.cell z3 (fun x => x)
      have y4 := hch.cell z4 (fun x => x)
      exact rg_val (v := .agg #[.bool true, .int .i64 fi, .int .i64 pl, .int .i64 va, .int .i64 st]) (by simp [execOp, go_sem, e0, y0, y1, y2, y3, y4]) rfl ⟨hch, hbx.keep (by decide) (by decide) hm (Chg.refl NoB _) (fun _ _ x => x)⟩ (Chg.refl _ _) rfl
    · rintro kc m a w5 hkc ⟨hch, hbx⟩ hm hn
      obtain ⟨⟨_, e0, m0, rfl⟩, ⟨_, e1, m1, rfl⟩, -⟩ := hn
      refine rg_call (f := 155) (args := #[.agg #[.int .i64 D[k].wear, .slice A' 4 c'], .agg #[.bool true, .int .i64 fi, .int .i64 pl, .int .i64 va, .int .i64 st]]) (by simp [go_sem, e0, e1]) rfl ?_
      refine (sWriteBlock_any _ A' c' D[k] ⟨true, fi, pl, va, st⟩ _ (HRD.out.new hch) HBK.out HP.out rfl).mono ?_
      rintro e' w6 ⟨g3, c3, rest3, rfl, hok6, hc6⟩
      rw [← HPP.out] at hok6 ⊢
      exact ⟨_, rfl, ⟨hch.trans' hc6 (fun _ x => x.elim), hbx.keep (by decide) (by decide) hm hc6 (fun _ _ x => x)⟩, (RBox.of hc6 (fun _ x => x)), ⟨g3, c3, rest3, rfl, (hok6.more hch.size (Nat.le_refl _))⟩⟩
    · rintro kc m a w5 hkc ⟨hch, hbx⟩ hm hn
      obtain ⟨⟨_, e0, m0, g3, c3, rest3, rfl, hok⟩, -⟩ := hn
      exact rg_val (v := .tuple #[.agg #[.int .i64 D[k].wear, .slice (some ⟨g3, 0, none⟩) 4 c3], .int .i64 (writeBlock D[k] P).2]) (by simp [execOp, go_sem, e0]) rfl ⟨hch, hbx.keep (by decide) (by decide) hm (Chg.refl NoB _) (fun _ _ x => x)⟩ (Chg.refl _ _) ⟨g3, c3, rest3, rfl, hok⟩
    · rintro kc m a w5 hkc ⟨hch, hbx⟩ hm hn
      obtain ⟨⟨_, e0, m0, g3, c3, rest3, rfl, hok⟩, -⟩ := hn
      exact rg_val (v := .agg #[.int .i64 D[k].wear, .slice (some ⟨g3, 0, none⟩) 4 c3]) (by simp [execOp, go_sem, e0]) rfl ⟨hch, hbx.keep (by decide) (by decide) hm (Chg.refl NoB _) (fun _ _ x => x)⟩ (Chg.refl _ _) ⟨g3, c3, rest3, rfl, hok⟩
    · rintro kc m a w5 hkc ⟨hch, hbx⟩ hm hn
      obtain ⟨⟨_, e0, m0, g3, c3, rest3, rfl, hok⟩, -⟩ := hn
      exact rg_val (v := .int .i64 (writeBlock D[k] P).2) (by simp [execOp, go_sem, e0]) rfl ⟨hch, hbx.keep (by decide) (by decide) hm (Chg.refl NoB _) (fun _ _ x => x)⟩ (Chg.refl _ _) rfl
    · rintro kc m a w5 hkc ⟨hch, hbx⟩ hm hn
      have hca : Chg NoB w5 (w5.alloc (.cells #[.int .i64 0, .slice none 0 0] 67)) := (Chg.refl _ _).alloc _
      exact rg_val (v := .pointer (some ⟨w5.heap.size, 0, none⟩)) (w' := w5.alloc (.cells #[.int .i64 0, .slice none 0 0] 67)) (by simp [execOp, go_sem]) rfl ⟨hch.alloc _, hbx.alloc (by decide) hm hch.size⟩ (RBox.of hca (fun _ x => x.elim)) trivial
    · rintro kc m a w5 hkc ⟨hch, hbx⟩ hm hn
      obtain ⟨⟨p0, e0, m0, _⟩, ⟨_, e1, m1, g3, c3, rest3, rfl, hok⟩, -⟩ := hn
      obtain ⟨bx, rfl, hBx, hb⟩ := hbx.ready hm m0
      have f0 := hb.frozen 0
      have x0 : w5.cell? ⟨bx, 0, none⟩ = some (.int .i64 0) := (hb.cell _).trans rfl
      have f1 := hb.frozen 1
      have x1 : w5.cell? ⟨bx, 1, none⟩ = some (.slice none 0 0) := (hb.cell _).trans rfl
      have hs : Chg (· = bx) w5 ((w5.setCell ⟨bx, 0, none⟩ (.int .i64 D[k].wear)).setCell ⟨bx, 1, none⟩ (.slice (some ⟨g3, 0, none⟩) 4 c3)) := (((Chg.refl (· = bx) w5).setCell (p := ⟨bx, 0, none⟩) (.inl rfl) _).setCell (p := ⟨bx, 1, none⟩) (.inl rfl) _)
      have hb' : Blk ((w5.setCell ⟨bx, 0, none⟩ (.int .i64 D[k].wear)).setCell ⟨bx, 1, none⟩ (.slice (some ⟨g3, 0, none⟩) 4 c3)) bx 67 #[.int .i64 D[k].wear, .slice (some ⟨g3, 0, none⟩) 4 c3] := ((hb.set_ 0 _).set_ 1 _)
      exact rg_skip (w' := ((w5.setCell ⟨bx, 0, none⟩ (.int .i64 D[k].wear)).setCell ⟨bx, 1, none⟩ (.slice (some ⟨g3, 0, none⟩) 4 c3))) (by simp [execOp, go_sem, e0, e1, x0, x1, f0, f1]) rfl ⟨hch.own hs hBx, BoxI.store (by decide) (by decide) m0 hBx m1 hb'⟩ (RBox.box hs hBx hb) trivial
    · rintro kc m a w5 hkc ⟨hch, hbx⟩ hm hn
      obtain ⟨⟨_, e0, m0, rfl⟩, -⟩ := hn
      exact rg_val (v := .int .i64 (writeBlock D[k] P).2) (by simp [execOp, go_sem, e0]) rfl ⟨hch, hbx.keep (by decide) (by decide) hm (Chg.refl NoB _) (fun _ _ x => x)⟩ (Chg.refl _ _) rfl
  rintro m w5 ⟨hch, hbx⟩
  simp only [AllVals]
  rintro q0 m0 p0 q1 m1 p1 q2 m2 p2 q3 m3 p3 q4 m4 p4 q5 m5 p5 q6 m6 p6 q7 m7 p7 q8 m8 p8 q9 m9 p9 q10 m10 p10 q11 m11 p11
  obtain ⟨g3, c3, rest3, rfl, hok⟩ := p7
  obtain rfl := p11
  obtain ⟨bx, rfl, hBx, hb⟩ := hbx.done m9 m10 m7
  have b0 : w5.cell? ⟨bx, 0, none⟩ = some (.int .i64 D[k].wear) := (hb.cell _).trans rfl
  have b1 : w5.cell? ⟨bx, 1, none⟩ = some (.slice (some ⟨g3, 0, none⟩) 4 c3) := (hb.cell _).trans rfl
  have HOK := Lib.hid hok
  have HCH := Lib.hid hch
  have hbg5 := HBG.out.chg hch (fun x => x)
  obtain ⟨x0, x1⟩ := DevO.room hbg5 (k := k) (by rw [HTL.out]; exact hk)
  have f0 := hbg5.frozen (k * 2)
  have f1 := hbg5.frozen (k * 2 + 1)
  have HBG5 := Lib.hid hbg5
  have HO5 := Lib.hid (HO4.out.new hch)
  have hnz := HWN.out
  have HNE := Lib.hid (show g < bx by have := HGB.out.2; omega)
  have hne1 : g ≠ bx := by have := HNE.out; omega
  have hne2 : bx ≠ g := by omega
  clear hb hbx hBx hok hch hbg5 z0 z1 z2 z3 z4
  clear p0 p1 p2 p3 p4 p5 p6 p8 p9 p10
  simp only [Act.put, List.setIfInBounds_toArray, List.set_cons_succ, List.set_cons_zero]
  obtain ⟨z, hz⟩ : ∃ z, (writeBlock D[k] P).2 = z := ⟨_, rfl⟩
  have HZ := Lib.hid hz
  rw [hz] at hnz ⊢
  obtain ⟨hz0, hz1⟩ := hnz
  clear hz
  have hFIN : ∀ z', (program D (k : Int) P).2 = z' → (program D (k : Int) P).1 = D.set k (writeBlock D[k] P).1 → Hid (ProgP w D k P (.returned (.tuple #[.slice (some ⟨g, 0, none⟩) D.length c2, .int .i64 z'])) ((w5.setCell ⟨g, k * 2, none⟩ (.int .i64 D[k].wear)).setCell ⟨g, k * 2 + 1, none⟩ (.slice (some ⟨g3, 0, none⟩) 4 c3))) := by
    intro z' e1 e2
    have hg := HGB.out
    have hs2 := HS2.out
    have hok5 := HOK.out
    have hkT : k < T.length := by rw [HTL.out]; exact hk
    have hps : (writeBlock D[k] P).1.pages.length = 4 := by
      have := BkOk.write HBK.out HP.out rfl
      rw [← HPP.out] at this
      exact this.2.1
    have hset := HO5.out.setBk (r := ⟨g3, c3, D[k].wear, (writeBlock D[k] P).1.pages, rest3⟩) HBG5.out hg hkT (hok5.more (Nat.le_of_lt (Nat.lt_of_le_of_lt hg.1 hg.2)) (Nat.le_refl _)) hok5.1
    rw [show (⟨g3, c3, D[k].wear, (writeBlock D[k] P).1.pages, rest3⟩ : BkO).ps.length = 4 from hps] at hset
    have hcs := chg2 (F := (· = g)) (a := .int .i64 D[k].wear) (b := .slice (some ⟨g3, 0, none⟩) 4 c3) (Chg.refl (· = g) w5) (.inl rfl) (k * 2)
    refine Lib.hid ⟨some ⟨g, 0, none⟩, c2, T.set k ⟨g3, c3, D[k].wear, (writeBlock D[k] P).1.pages, rest3⟩, by rw [e1], ?_, hset.more hs2 (by simp [World.setCell]), (HC4.out.trans HCH.out).own hcs (by omega)⟩
    rw [bksOf_set, HT.out, e2]
    congr 1
    show (⟨D[k].wear, (writeBlock D[k] P).1.pages⟩ : Bk) = _
    rw [← HWW.out]
  by_cases hneg : z < 0
  · have HN := Lib.hid (show (program D (k : Int) P).2 = -1 ∧ (program D (k : Int) P).1 = D.set k (writeBlock D[k] P).1 by
      rw [HPR.out, HZ.out, if_neg (by omega)]
      refine ⟨rfl, ?_⟩
      have hl4 : ¬ lead D[k].pages < 4 := fun hh => by
        have := writeBlock_free HBK.out HP.out rfl hh
        rw [← HPP.out] at this
        have h3 := HZ.out
        rw [this] at h3
        simp only at h3
        omega
      have := writeBlock_full HBK.out HP.out rfl hl4
      rw [← HPP.out] at this
      rw [this]
      exact (List.set_getElem_self hk).symm)
    go_wp2_with fail
    (try simp only [Exit.inBlock, Exit.then])
    refine bodyPost_ret (v := .tuple #[.slice (some ⟨g, 0, none⟩) D.length c2, .int .i64 (-1)]) (by simp [results, Try.results138, go_sem, *]) rfl ?_
    exact (hFIN (-1) HN.out.1 HN.out.2).out
  · have HN := Lib.hid (show (program D (k : Int) P).2 = 4 * (k : Int) + z ∧ (program D (k : Int) P).1 = D.set k (writeBlock D[k] P).1 by
      rw [HPR.out, HZ.out, if_pos (by omega)]
      exact ⟨rfl, rfl⟩)
    have hk12 : (k : Int) * 4 ≤ 44 := by omega
    go_wp2_with fail
    (try simp only [Exit.inBlock, Exit.then])
    refine bodyPost_ret (v := .tuple #[.slice (some ⟨g, 0, none⟩) D.length c2, .int .i64 ((k : Int) * 4 + z)]) (by simp [results, Try.results138, go_sem, *]) rfl ?_
    exact (hFIN ((k : Int) * 4 + z) (by rw [HN.out.1]; omega) HN.out.2).out
set_option maxRecDepth 100000 in
set_option maxHeartbeats 2000000 in
theorem sHeadOf_any (F : Nat → Prop) (A : Option Addr) (c : Nat) (D : List Bk) (h : Hd) (n : Nat) (w : World) (hr : DevR F w A D) (hh : HeadsOk D h) (hn : n < 3) :
    Calls Try.prog 134 #[.slice A D.length c, hval h, .int .i64 n] w fun e w' => e = .returned (.int .i64 (h.get n)) ∧ Chg NoB w w' := by
  obtain ⟨a1, a2, a3⟩ := h
  have hca := (Chg.refl NoB w).alloc (.cells #[.int .i64 a1, .int .i64 a2, .int .i64 a3] 46)
  have HB := Lib.hid (Blk.new w 46 #[.int .i64 a1, .int .i64 a2, .int .i64 a3])
  have HC := Lib.hid hca
  have HR := Lib.hid (hr.new hca)
  have HH := Lib.hid hh
  clear hca hr hh
  rcases (show n = 0 ∨ n = 1 ∨ n = 2 by omega) with rfl | rfl | rfl
  all_goals
    go_enter Try.func134, Try.ntmps134
    go_wp2_with fail
    refine (sHeadsValid_any _ A c D ⟨a1, a2, a3⟩ _ HR.out HH.out.1.small).mono ?_
    rintro e w1 ⟨rfl, hc1⟩
    rw [decide_eq_true HH.out]
    have hb := HB.out.chg hc1 (fun x => x)
    have x0 : w1.cell? ⟨w.heap.size, 0, none⟩ = some (.int .i64 a1) := (hb.cell _).trans rfl
    have x1 : w1.cell? ⟨w.heap.size, 1, none⟩ = some (.int .i64 a2) := (hb.cell _).trans rfl
    have x2 : w1.cell? ⟨w.heap.size, 2, none⟩ = some (.int .i64 a3) := (hb.cell _).trans rfl
    have HC1 := Lib.hid (HC.out.trans hc1)
    clear hc1 hb
    go_wp2_with fail
    refine (l1In_t _ 0 2 _ ⟨by omega, by omega⟩).mono ?_
    rintro e w' ⟨rfl, rfl⟩
    go_wp2
    go_ret
    exact ⟨rfl, HC1.out.alloc _⟩
set_option maxRecDepth 100000 in
set_option maxHeartbeats 2000000 in
theorem l6Set_any (h : Hd) (n : Nat) (x : Int) (w : World) (hn : n < 3) :
    Calls Try.prog 137 #[hval h, .int .i64 n, .int .i64 x] w fun e w' => e = .returned (hval (h.put n x)) ∧ Chg NoB w w' := by
  obtain ⟨a1, a2, a3⟩ := h
  obtain ⟨q1, q2, q3⟩ := lit2 w 46 46 #[.int .i64 a1, .int .i64 a2, .int .i64 a3] #[.int .i64 0, .int .i64 0, .int .i64 0]
  rcases (show n = 0 ∨ n = 1 ∨ n = 2 by omega) with rfl | rfl | rfl
  all_goals
    go_enter Try.func137, Try.ntmps137
    go_wp2
    (try simp only [Exit.inBlock, Exit.then])
  · refine bodyPost_ret (v := .agg #[.int .i64 x, .int .i64 a2, .int .i64 a3]) (by simp [results, Try.results137, go_sem, *]) rfl ⟨rfl, ?_⟩
    exact ((Chg.refl NoB w).alloc _).alloc _
  · refine bodyPost_ret (v := .agg #[.int .i64 a1, .int .i64 x, .int .i64 a3]) (by simp [results, Try.results137, go_sem, *]) rfl ⟨rfl, ?_⟩
    exact ((Chg.refl NoB w).alloc _).alloc _
  · refine bodyPost_ret (v := .agg #[.int .i64 a1, .int .i64 a2, .int .i64 x]) (by simp [results, Try.results137, go_sem, *]) rfl ⟨rfl, ?_⟩
    exact ((Chg.refl NoB w).alloc _).alloc _
end Go.Proofs.Ytpiojofmflfkkaa
/- FreshBlock and WearVictim of the reference, WearVictim of the program. -/
namespace Go.Proofs.Ytpiojofmflfkkaa
open Go.RowKit
theorem next_zero {b : Bk} (hb : BkOk b) : next b = 0 ↔ lead b.pages = 0 := by
  unfold next
  have h4 := hb.2.1
  by_cases h : lead b.pages < b.pages.length
  · rw [if_pos ⟨hb, h⟩]; omega
  · rw [if_neg (fun hh => h hh.2)]; omega
theorem best_yes {good : Nat → Bool} {W : Nat → Int} {k : Nat} (h : good k = true) (h2 : bestTo good W k < 0 ∨ W k < W (bestTo good W k).toNat) : bestTo good W (k + 1) = (k : Int) := if_pos ⟨h, h2⟩
theorem best_no {good : Nat → Bool} {W : Nat → Int} {k : Nat} (h : ¬ (good k = true ∧ (bestTo good W k < 0 ∨ W k < W (bestTo good W k).toNat))) : bestTo good W (k + 1) = bestTo good W k := if_neg h
set_option maxRecDepth 100000 in
set_option maxHeartbeats 8000000 in
theorem sFreshBlock_any (F : Nat → Prop) (A : Option Addr) (c : Nat) (D : List Bk) (h : Hd) (w : World) (hr : DevR F w A D) (hs : Small D) :
    Calls Try.prog 136 #[.slice A D.length c, hval h] w fun e w' => e = .returned (.int .i64 (fresh D h)) ∧ Chg NoB w w' := by
  obtain ⟨x, y, z⟩ := h
  have hca := (Chg.refl NoB w).alloc (.cells #[.int .i64 x, .int .i64 y, .int .i64 z] 46)
  have HB0 := Lib.hid (Blk.new w 46 #[.int .i64 x, .int .i64 y, .int .i64 z])
  have HC := Lib.hid hca
  have HR := Lib.hid (hr.new hca)
  have HR0 := Lib.hid hr
  clear hca hr
  by_cases hd : HeadsOk D ⟨x, y, z⟩
  case neg =>
    have HD := Lib.hid hd
    have hlen := hs.1
    clear hd
    by_cases h0 : D.length = 0
    · have HE := Lib.hid h0
      have hA : D = [] := List.eq_nil_of_length_eq_zero h0
      have hz : ¬ ((0 : Int) < (D.length : Int)) := by omega
      clear h0 hA
      go_enter Try.func136, Try.ntmps136
      go_wp2
      refine wp_loop_rounds 1 ?_
      refine one_round ?_
      go_wp2
      go_ret
      exact ⟨ret_int (if_neg HD.out).symm, HC.out⟩
    · have hz : (0 : Int) < (D.length : Int) := by omega
      clear h0
      go_enter Try.func136, Try.ntmps136
      go_wp2
      refine wp_loop_rounds 1 ?_
      refine one_round ?_
      go_wp2_with fail
      refine (sHeadsValid_any _ A c D ⟨x, y, z⟩ _ HR.out hs).mono ?_
      rintro e w1 ⟨rfl, hc1⟩
      have HCC := Lib.hid (HC.out.trans hc1)
      rw [decide_eq_false HD.out]
      clear hc1
      go_wp2
      go_ret
      exact ⟨ret_int (if_neg HD.out).symm, HCC.out⟩
  have HD := Lib.hid hd
  have h1 := hd.1.1.1
  have h2 := hd.1.1.2
  clear hd
  have HS := Lib.hid hs
  clear hs
  go_enter Try.func136, Try.ntmps136
  go_wp2
  go_loopw [5, 6] (fun v i wr => ∃ k : Nat, k ≤ D.length ∧ i = .int .i64 k ∧ v = .int .i64 (bestTo (freshGood D ⟨x, y, z⟩) (wearAt D) k) ∧ Chg NoB w wr ∧ Blk wr w.heap.size 46 #[.int .i64 x, .int .i64 y, .int .i64 z]) (fun _ i _ => D.length - (intOf i).toNat)
  case atStart => exact ⟨0, Nat.zero_le _, rfl, rfl, HC.out, HB0.out⟩
  case round =>
    obtain ⟨k, hkl, rfl, rfl, hch, hbx⟩ := hrel
    have x0 : wr.cell? ⟨w.heap.size, 0, none⟩ = some (.int .i64 x) := (hbx.cell _).trans rfl
    have x1 : wr.cell? ⟨w.heap.size, 1, none⟩ = some (.int .i64 y) := (hbx.cell _).trans rfl
    have x2 : wr.cell? ⟨w.heap.size, 2, none⟩ = some (.int .i64 z) := (hbx.cell _).trans rfl
    have hrng := bestTo_range (freshGood D ⟨x, y, z⟩) (wearAt D) k
    obtain ⟨best, hbest⟩ : ∃ best, bestTo (freshGood D ⟨x, y, z⟩) (wearAt D) k = best := ⟨_, rfl⟩
    rw [hbest] at hrng ⊢
    obtain ⟨hrg0, hrg1⟩ := hrng
    have HBEST := Lib.hid hbest
    clear hbest
    by_cases hk : k < D.length
    · have hi0 : (0 : Int) ≤ (k : Int) := Int.natCast_nonneg _
      have hi1 : (k : Int) < (D.length : Int) := by omega
      have hok : BkOk D[k] := HD.out.1.2 k hk
      have HG0 := Lib.hid (show ¬ (next D[k] == 0) = true → ¬ freshGood D ⟨x, y, z⟩ k = true from fun hn hg => by
        unfold freshGood at hg
        rw [getD_at hk, Bool.and_eq_true, decide_eq_true_iff] at hg
        exact hn (by rw [beq_iff_eq, next_zero hok]; exact hg.1))
      have HG1 := Lib.hid (show isHead ⟨x, y, z⟩ (k : Int) → ¬ freshGood D ⟨x, y, z⟩ k = true from fun hn hg => by
        unfold freshGood at hg
        rw [Bool.and_eq_true, Bool.not_eq_true', decide_eq_false_iff_not] at hg
        exact hg.2 hn)
      have HG2 := Lib.hid (show (next D[k] == 0) = true → ¬ isHead ⟨x, y, z⟩ (k : Int) → freshGood D ⟨x, y, z⟩ k = true from fun hn hh => by
        unfold freshGood
        rw [getD_at hk, Bool.and_eq_true, decide_eq_true_iff, Bool.not_eq_true', decide_eq_false_iff_not]
        exact ⟨(next_zero hok).1 (by simpa using hn), hh⟩)
      have HCH := Lib.hid hch
      have HBX0 := Lib.hid hbx
      clear hch hbx hok
      go_wp2_with fail
      refine (sHeadsValid_any _ A c D ⟨x, y, z⟩ _ (HR0.out.new HCH.out) HS.out).mono ?_
      rintro e w1 ⟨rfl, hc1⟩
      rw [decide_eq_true HD.out]
      have HCC := Lib.hid (HCH.out.trans hc1)
      have HBX := Lib.hid (HBX0.out.chg hc1 (fun x => x))
      have hbx := HBX.out
      replace x0 : w1.cell? ⟨w.heap.size, 0, none⟩ = some (.int .i64 x) := (hbx.cell _).trans rfl
      replace x1 : w1.cell? ⟨w.heap.size, 1, none⟩ = some (.int .i64 y) := (hbx.cell _).trans rfl
      replace x2 : w1.cell? ⟨w.heap.size, 2, none⟩ = some (.int .i64 z) := (hbx.cell _).trans rfl
      have HRW := Lib.hid (HR0.out.new HCC.out)
      obtain ⟨bb, o, A', c', rfl, -, c0, c1, hr1, -⟩ := HRW.out k hk
      have HRD := Lib.hid hr1
      have HPL := Lib.hid (HS.out.2 k hk)
      clear hc1 hbx hr1
      go_wp2
      by_cases hn : (next D[k] == 0) = true
      case neg =>
        have hn' : (next D[k] == 0) = false := by simpa using hn
        have HB := Lib.hid (best_no (W := wearAt D) (k := k) (good := freshGood D ⟨x, y, z⟩) (fun hh => HG0.out hn hh.1))
        clear hn
        refine wp_region_ro (gl := [(6, some false), (12, some false), (18, some false), (24, some false), (27, none)]) (WInv := fun _ _ w5 => Chg NoB w1 w5) (R := Chg NoB) (Post := PV [some (.slice (some ⟨bb, o, none⟩) D.length c), some (.int .i64 (k : Int)), some (.pointer (some ⟨bb, o + k * 2, none⟩)), some (.agg #[.int .i64 D[k].wear, .slice A' D[k].pages.length c']), some (.int .i64 (next D[k])), some (.bool false), some (.bool false), some (undef), some (undef), some (undef), some (undef), some (.bool false), some (.bool false), some (undef), some (undef), some (undef), some (undef), some (.bool false), some (.bool false), some (undef), some (undef), some (undef), some (undef), some (.bool false), some (.bool false), some (undef), some (undef), some (undef), some (undef), some (undef), some (undef), some (undef), some (undef), some (undef), some (undef), some (undef), some (undef), some (undef), some (undef), some (undef), some (.bool false)]) (by kernel_rfl) (by kernel_rfl) (pv_guard (by intro p hp; simp only [List.mem_cons, List.not_mem_nil, or_false] at hp; rcases hp with rfl | rfl | rfl | rfl | rfl <;> rfl)) (fun _ _ _ _ h _ _ => h) (fun _ _ _ _ h _ => h) (Chg.refl _ _).drew ⟨?_, ?_, ?_, ?_, ?_, ?_, ?_, ?_, ?_, ?_, ?_, ?_, ?_, ?_, ?_, ?_, ?_, ?_, ?_, ?_, ?_, ?_, ?_, ?_, ?_, ?_, ?_, ?_, ?_, ?_, ?_, ?_, ?_, ?_, ?_, ?_, ?_, ?_, ?_, ?_, ?_, trivial⟩ ?_
        · rintro kc m a w5 hkc hch hm hn
          obtain ⟨e1, -⟩ := hn
          replace e1 : a.tmps[0]?.getD undef = .slice (some ⟨bb, o, none⟩) D.length c := e1
          exact rg_val (v := .slice (some ⟨bb, o, none⟩) D.length c) (by simp [execOp, go_sem, e1]) rfl hch (Chg.refl _ _) rfl
        · rintro kc m a w5 hkc hch hm hn
          obtain ⟨e1, -⟩ := hn
          replace e1 : a.tmps[6]?.getD undef = .int .i64 (k : Int) := e1
          exact rg_val (v := .int .i64 (k : Int)) (by simp [execOp, go_sem, e1]) rfl hch (Chg.refl _ _) rfl
        · rintro kc m a w5 hkc hch hm hn
          obtain ⟨⟨_, e1, _, rfl⟩, ⟨_, e2, _, rfl⟩, -⟩ := hn
          exact rg_val (v := .pointer (some ⟨bb, o + k * 2, none⟩)) (by simp [execOp, go_sem, e1, e2]; exact fun hh => absurd hh (by omega)) rfl hch (Chg.refl _ _) rfl
        · rintro kc m a w5 hkc hch hm hn
          obtain ⟨⟨_, e1, _, rfl⟩, -⟩ := hn
          have c0 := Chg.cell hch c0 (fun x => x)
          have c1 := Chg.cell hch c1 (fun x => x)
          exact rg_val (v := .agg #[.int .i64 D[k].wear, .slice A' D[k].pages.length c']) (by simp [execOp, go_sem, e1, c0, c1]) rfl hch (Chg.refl _ _) rfl
        · rintro kc m a w5 hkc hch hm hn
          obtain ⟨⟨_, e1, _, rfl⟩, -⟩ := hn
          refine rg_call (f := 135) (args := #[.agg #[.int .i64 D[k].wear, .slice A' D[k].pages.length c']]) (by simp [go_sem, e1]) rfl ?_
          refine (sBlockNext_any _ A' c' D[k] _ (HRD.out.new hch) HPL.out).mono ?_
          rintro e w6 ⟨rfl, hc6⟩
          exact ⟨_, rfl, hch.trans hc6, hc6, rfl⟩
        · rintro kc m a w5 hkc hch hm hn
          obtain ⟨⟨_, e1, _, rfl⟩, -⟩ := hn
          exact rg_val (v := .bool false) (by simp [execOp, go_sem, e1, hn']) rfl hch (Chg.refl _ _) rfl
        · rintro kc m a w5 hkc hch hm hn
          obtain ⟨⟨_, e1, _, rfl⟩, -⟩ := hn
          exact rg_val (v := .bool false) (by simp [execOp, go_sem, e1]) rfl hch (Chg.refl _ _) rfl
        · rintro kc m w5 hkc hch hm
          exact ⟨hch, Chg.refl _ _, rfl⟩
        · rintro kc m w5 hkc hch hm
          exact ⟨hch, Chg.refl _ _, rfl⟩
        · rintro kc m w5 hkc hch hm
          exact ⟨hch, Chg.refl _ _, rfl⟩
        · rintro kc m w5 hkc hch hm
          exact ⟨hch, Chg.refl _ _, rfl⟩
        · rintro kc m a w5 hkc hch hm hn
          obtain ⟨⟨_, e1, _, rfl⟩, ⟨_, e2, _, rfl⟩, -⟩ := hn
          exact rg_val (v := .bool false) (by simp [execOp, go_sem, e1, e2]) rfl hch (Chg.refl _ _) rfl
        · rintro kc m a w5 hkc hch hm hn
          obtain ⟨⟨_, e1, _, rfl⟩, -⟩ := hn
          exact rg_val (v := .bool false) (by simp [execOp, go_sem, e1]) rfl hch (Chg.refl _ _) rfl
        · rintro kc m w5 hkc hch hm
          exact ⟨hch, Chg.refl _ _, rfl⟩
        · rintro kc m w5 hkc hch hm
          exact ⟨hch, Chg.refl _ _, rfl⟩
        · rintro kc m w5 hkc hch hm
          exact ⟨hch, Chg.refl _ _, rfl⟩
        · rintro kc m w5 hkc hch hm
          exact ⟨hch, Chg.refl _ _, rfl⟩
        · rintro kc m a w5 hkc hch hm hn
          obtain ⟨⟨_, e1, _, rfl⟩, ⟨_, e2, _, rfl⟩, -⟩ := hn
          exact rg_val (v := .bool false) (by simp [execOp, go_sem, e1, e2]) rfl hch (Chg.refl _ _) rfl
        · rintro kc m a w5 hkc hch hm hn
          obtain ⟨⟨_, e1, _, rfl⟩, -⟩ := hn
          exact rg_val (v := .bool false) (by simp [execOp, go_sem, e1]) rfl hch (Chg.refl _ _) rfl
        · rintro kc m w5 hkc hch hm
          exact ⟨hch, Chg.refl _ _, rfl⟩
        · rintro kc m w5 hkc hch hm
          exact ⟨hch, Chg.refl _ _, rfl⟩
        · rintro kc m w5 hkc hch hm
          exact ⟨hch, Chg.refl _ _, rfl⟩
        · rintro kc m w5 hkc hch hm
          exact ⟨hch, Chg.refl _ _, rfl⟩
        · rintro kc m a w5 hkc hch hm hn
          obtain ⟨⟨_, e1, _, rfl⟩, ⟨_, e2, _, rfl⟩, -⟩ := hn
          exact rg_val (v := .bool false) (by simp [execOp, go_sem, e1, e2]) rfl hch (Chg.refl _ _) rfl
        · rintro kc m a w5 hkc hch hm hn
          obtain ⟨⟨_, e1, _, rfl⟩, -⟩ := hn
          exact rg_val (v := .bool false) (by simp [execOp, go_sem, e1]) rfl hch (Chg.refl _ _) rfl
        · rintro kc m w5 hkc hch hm
          exact ⟨hch, Chg.refl _ _, rfl⟩
        · rintro kc m w5 hkc hch hm
          exact ⟨hch, Chg.refl _ _, rfl⟩
        · rintro kc m w5 hkc hch hm
          exact ⟨hch, Chg.refl _ _, rfl⟩
        · rintro kc m w5 hkc hch hm
          exact ⟨hch, Chg.refl _ _, rfl⟩
        · rintro kc m w5 hkc hch hm
          exact ⟨hch, Chg.refl _ _, rfl⟩
        · rintro kc m w5 hkc hch hm
          exact ⟨hch, Chg.refl _ _, rfl⟩
        · rintro kc m w5 hkc hch hm
          exact ⟨hch, Chg.refl _ _, rfl⟩
        · rintro kc m w5 hkc hch hm
          exact ⟨hch, Chg.refl _ _, rfl⟩
        · rintro kc m w5 hkc hch hm
          exact ⟨hch, Chg.refl _ _, rfl⟩
        · rintro kc m w5 hkc hch hm
          exact ⟨hch, Chg.refl _ _, rfl⟩
        · rintro kc m w5 hkc hch hm
          exact ⟨hch, Chg.refl _ _, rfl⟩
        · rintro kc m w5 hkc hch hm
          exact ⟨hch, Chg.refl _ _, rfl⟩
        · rintro kc m w5 hkc hch hm
          exact ⟨hch, Chg.refl _ _, rfl⟩
        · rintro kc m w5 hkc hch hm
          exact ⟨hch, Chg.refl _ _, rfl⟩
        · rintro kc m w5 hkc hch hm
          exact ⟨hch, Chg.refl _ _, rfl⟩
        · rintro kc m a w5 hkc hch hm hn
          obtain ⟨⟨_, e1, _, rfl⟩, ⟨_, e2, _, rfl⟩, -⟩ := hn
          exact rg_val (v := .bool false) (by simp [execOp, go_sem, e1, e2]) rfl hch (Chg.refl _ _) rfl
        rintro m w2 hc2
        simp only [AllVals]
        rintro v0 _ p0 v1 _ p1 v2 _ p2 v3 _ p3 v4 _ p4 v5 _ p5 v6 _ p6 v7 _ p7 v8 _ p8 v9 _ p9 v10 _ p10 v11 _ p11 v12 _ p12 v13 _ p13 v14 _ p14 v15 _ p15 v16 _ p16 v17 _ p17 v18 _ p18 v19 _ p19 v20 _ p20 v21 _ p21 v22 _ p22 v23 _ p23 v24 _ p24 v25 _ p25 v26 _ p26 v27 _ p27 v28 _ p28 v29 _ p29 v30 _ p30 v31 _ p31 v32 _ p32 v33 _ p33 v34 _ p34 v35 _ p35 v36 _ p36 v37 _ p37 v38 _ p38 v39 _ p39 v40 _ p40
        obtain rfl := p40
        clear p0 p1 p2 p3 p4 p5 p6 p7 p8 p9 p10 p11 p12 p13 p14 p15 p16 p17 p18 p19 p20 p21 p22 p23 p24 p25 p26 p27 p28 p29 p30 p31 p32 p33 p34 p35 p36 p37 p38 p39
        simp only [Act.put, List.setIfInBounds_toArray, List.set_cons_succ, List.set_cons_zero]
        have HC2 := Lib.hid hc2
        clear hc2
        go_wp2
        go_roundw
        case rel => exact ⟨k + 1, by omega, by go_num, by rw [HB.out, HBEST.out], HCC.out.trans HC2.out, HBX.out.chg HC2.out (fun x => x)⟩
        case measure => simp [intOf]; omega
      have HN := Lib.hid hn
      by_cases ha : (k : Int) = x
      case pos =>
        have ha' : ((k : Int) != x) = false := by simpa using ha
        have HB := Lib.hid (best_no (W := wearAt D) (k := k) (good := freshGood D ⟨x, y, z⟩) (fun hh => HG1.out (.inl ha) hh.1))
        clear ha
        refine wp_region_ro (gl := [(6, some true), (12, some false), (18, some false), (24, some false), (27, none)]) (WInv := fun _ _ w5 => Chg NoB w1 w5) (R := Chg NoB) (Post := PV [some (.slice (some ⟨bb, o, none⟩) D.length c), some (.int .i64 (k : Int)), some (.pointer (some ⟨bb, o + k * 2, none⟩)), some (.agg #[.int .i64 D[k].wear, .slice A' D[k].pages.length c']), some (.int .i64 (next D[k])), some (.bool true), some (.bool true), some (.int .i64 (k : Int)), some (.pointer (some ⟨w.heap.size, 0, none⟩)), some (.int .i64 x), some (.bool false), some (.bool false), some (.bool false), some (undef), some (undef), some (undef), some (undef), some (.bool false), some (.bool false), some (undef), some (undef), some (undef), some (undef), some (.bool false), some (.bool false), some (undef), some (undef), some (undef), some (undef), some (undef), some (undef), some (undef), some (undef), some (undef), some (undef), some (undef), some (undef), some (undef), some (undef), some (undef), some (.bool false)]) (by kernel_rfl) (by kernel_rfl) (pv_guard (by intro p hp; simp only [List.mem_cons, List.not_mem_nil, or_false] at hp; rcases hp with rfl | rfl | rfl | rfl | rfl <;> rfl)) (fun _ _ _ _ h _ _ => h) (fun _ _ _ _ h _ => h) (Chg.refl _ _).drew ⟨?_, ?_, ?_, ?_, ?_, ?_, ?_, ?_, ?_, ?_, ?_, ?_, ?_, ?_, ?_, ?_, ?_, ?_, ?_, ?_, ?_, ?_, ?_, ?_, ?_, ?_, ?_, ?_, ?_, ?_, ?_, ?_, ?_, ?_, ?_, ?_, ?_, ?_, ?_, ?_, ?_, trivial⟩ ?_
        · rintro kc m a w5 hkc hch hm hn
          obtain ⟨e1, -⟩ := hn
          replace e1 : a.tmps[0]?.getD undef = .slice (some ⟨bb, o, none⟩) D.length c := e1
          exact rg_val (v := .slice (some ⟨bb, o, none⟩) D.length c) (by simp [execOp, go_sem, e1]) rfl hch (Chg.refl _ _) rfl
        · rintro kc m a w5 hkc hch hm hn
          obtain ⟨e1, -⟩ := hn
          replace e1 : a.tmps[6]?.getD undef = .int .i64 (k : Int) := e1
          exact rg_val (v := .int .i64 (k : Int)) (by simp [execOp, go_sem, e1]) rfl hch (Chg.refl _ _) rfl
        · rintro kc m a w5 hkc hch hm hn
          obtain ⟨⟨_, e1, _, rfl⟩, ⟨_, e2, _, rfl⟩, -⟩ := hn
          exact rg_val (v := .pointer (some ⟨bb, o + k * 2, none⟩)) (by simp [execOp, go_sem, e1, e2]; exact fun hh => absurd hh (by omega)) rfl hch (Chg.refl _ _) rfl
        · rintro kc m a w5 hkc hch hm hn
          obtain ⟨⟨_, e1, _, rfl⟩, -⟩ := hn
          have c0 := Chg.cell hch c0 (fun x => x)
          have c1 := Chg.cell hch c1 (fun x => x)
          exact rg_val (v := .agg #[.int .i64 D[k].wear, .slice A' D[k].pages.length c']) (by simp [execOp, go_sem, e1, c0, c1]) rfl hch (Chg.refl _ _) rfl
        · rintro kc m a w5 hkc hch hm hn
          obtain ⟨⟨_, e1, _, rfl⟩, -⟩ := hn
          refine rg_call (f := 135) (args := #[.agg #[.int .i64 D[k].wear, .slice A' D[k].pages.length c']]) (by simp [go_sem, e1]) rfl ?_
          refine (sBlockNext_any _ A' c' D[k] _ (HRD.out.new hch) HPL.out).mono ?_
          rintro e w6 ⟨rfl, hc6⟩
          exact ⟨_, rfl, hch.trans hc6, hc6, rfl⟩
        · rintro kc m a w5 hkc hch hm hn
          obtain ⟨⟨_, e1, _, rfl⟩, -⟩ := hn
          exact rg_val (v := .bool true) (by simp [execOp, go_sem, e1, hn]) rfl hch (Chg.refl _ _) rfl
        · rintro kc m a w5 hkc hch hm hn
          obtain ⟨⟨_, e1, _, rfl⟩, -⟩ := hn
          exact rg_val (v := .bool true) (by simp [execOp, go_sem, e1]) rfl hch (Chg.refl _ _) rfl
        · rintro kc m a w5 hkc hch hm hn
          obtain ⟨e1, -⟩ := hn
          replace e1 : a.tmps[6]?.getD undef = .int .i64 (k : Int) := e1
          exact rg_val (v := .int .i64 (k : Int)) (by simp [execOp, go_sem, e1]) rfl hch (Chg.refl _ _) rfl
        · rintro kc m a w5 hkc hch hm hn
          obtain ⟨e1, -⟩ := hn
          replace e1 : a.tmps[3]?.getD undef = .pointer (some ⟨w.heap.size, 0, none⟩) := e1
          exact rg_val (v := .pointer (some ⟨w.heap.size, 0, none⟩)) (by simp [execOp, go_sem, e1]) rfl hch (Chg.refl _ _) rfl
        · rintro kc m a w5 hkc hch hm hn
          obtain ⟨⟨_, e1, _, rfl⟩, -⟩ := hn
          have c0 := Chg.cell hch x0 (fun x => x)
          exact rg_val (v := .int .i64 x) (by simp [execOp, go_sem, e1, c0]) rfl hch (Chg.refl _ _) rfl
        · rintro kc m a w5 hkc hch hm hn
          obtain ⟨⟨_, e1, _, rfl⟩, ⟨_, e2, _, rfl⟩, -⟩ := hn
          exact rg_val (v := .bool false) (by simp [execOp, go_sem, e1, e2, ha']) rfl hch (Chg.refl _ _) rfl
        · rintro kc m a w5 hkc hch hm hn
          obtain ⟨⟨_, e1, _, rfl⟩, ⟨_, e2, _, rfl⟩, -⟩ := hn
          exact rg_val (v := .bool false) (by simp [execOp, go_sem, e1, e2]) rfl hch (Chg.refl _ _) rfl
        · rintro kc m a w5 hkc hch hm hn
          obtain ⟨⟨_, e1, _, rfl⟩, -⟩ := hn
          exact rg_val (v := .bool false) (by simp [execOp, go_sem, e1]) rfl hch (Chg.refl _ _) rfl
        · rintro kc m w5 hkc hch hm
          exact ⟨hch, Chg.refl _ _, rfl⟩
        · rintro kc m w5 hkc hch hm
          exact ⟨hch, Chg.refl _ _, rfl⟩
        · rintro kc m w5 hkc hch hm
          exact ⟨hch, Chg.refl _ _, rfl⟩
        · rintro kc m w5 hkc hch hm
          exact ⟨hch, Chg.refl _ _, rfl⟩
        · rintro kc m a w5 hkc hch hm hn
          obtain ⟨⟨_, e1, _, rfl⟩, ⟨_, e2, _, rfl⟩, -⟩ := hn
          exact rg_val (v := .bool false) (by simp [execOp, go_sem, e1, e2]) rfl hch (Chg.refl _ _) rfl
        · rintro kc m a w5 hkc hch hm hn
          obtain ⟨⟨_, e1, _, rfl⟩, -⟩ := hn
          exact rg_val (v := .bool false) (by simp [execOp, go_sem, e1]) rfl hch (Chg.refl _ _) rfl
        · rintro kc m w5 hkc hch hm
          exact ⟨hch, Chg.refl _ _, rfl⟩
        · rintro kc m w5 hkc hch hm
          exact ⟨hch, Chg.refl _ _, rfl⟩
        · rintro kc m w5 hkc hch hm
          exact ⟨hch, Chg.refl _ _, rfl⟩
        · rintro kc m w5 hkc hch hm
          exact ⟨hch, Chg.refl _ _, rfl⟩
        · rintro kc m a w5 hkc hch hm hn
          obtain ⟨⟨_, e1, _, rfl⟩, ⟨_, e2, _, rfl⟩, -⟩ := hn
          exact rg_val (v := .bool false) (by simp [execOp, go_sem, e1, e2]) rfl hch (Chg.refl _ _) rfl
        · rintro kc m a w5 hkc hch hm hn
          obtain ⟨⟨_, e1, _, rfl⟩, -⟩ := hn
          exact rg_val (v := .bool false) (by simp [execOp, go_sem, e1]) rfl hch (Chg.refl _ _) rfl
        · rintro kc m w5 hkc hch hm
          exact ⟨hch, Chg.refl _ _, rfl⟩
        · rintro kc m w5 hkc hch hm
          exact ⟨hch, Chg.refl _ _, rfl⟩
        · rintro kc m w5 hkc hch hm
          exact ⟨hch, Chg.refl _ _, rfl⟩
        · rintro kc m w5 hkc hch hm
          exact ⟨hch, Chg.refl _ _, rfl⟩
        · rintro kc m w5 hkc hch hm
          exact ⟨hch, Chg.refl _ _, rfl⟩
        · rintro kc m w5 hkc hch hm
          exact ⟨hch, Chg.refl _ _, rfl⟩
        · rintro kc m w5 hkc hch hm
          exact ⟨hch, Chg.refl _ _, rfl⟩
        · rintro kc m w5 hkc hch hm
          exact ⟨hch, Chg.refl _ _, rfl⟩
        · rintro kc m w5 hkc hch hm
          exact ⟨hch, Chg.refl _ _, rfl⟩
        · rintro kc m w5 hkc hch hm
          exact ⟨hch, Chg.refl _ _, rfl⟩
        · rintro kc m w5 hkc hch hm
          exact ⟨hch, Chg.refl _ _, rfl⟩
        · rintro kc m w5 hkc hch hm
          exact ⟨hch, Chg.refl _ _, rfl⟩
        · rintro kc m w5 hkc hch hm
          exact ⟨hch, Chg.refl _ _, rfl⟩
        · rintro kc m w5 hkc hch hm
          exact ⟨hch, Chg.refl _ _, rfl⟩
        · rintro kc m w5 hkc hch hm
          exact ⟨hch, Chg.refl _ _, rfl⟩
        · rintro kc m a w5 hkc hch hm hn
          obtain ⟨⟨_, e1, _, rfl⟩, ⟨_, e2, _, rfl⟩, -⟩ := hn
          exact rg_val (v := .bool false) (by simp [execOp, go_sem, e1, e2]) rfl hch (Chg.refl _ _) rfl
        rintro m w2 hc2
        simp only [AllVals]
        rintro v0 _ p0 v1 _ p1 v2 _ p2 v3 _ p3 v4 _ p4 v5 _ p5 v6 _ p6 v7 _ p7 v8 _ p8 v9 _ p9 v10 _ p10 v11 _ p11 v12 _ p12 v13 _ p13 v14 _ p14 v15 _ p15 v16 _ p16 v17 _ p17 v18 _ p18 v19 _ p19 v20 _ p20 v21 _ p21 v22 _ p22 v23 _ p23 v24 _ p24 v25 _ p25 v26 _ p26 v27 _ p27 v28 _ p28 v29 _ p29 v30 _ p30 v31 _ p31 v32 _ p32 v33 _ p33 v34 _ p34 v35 _ p35 v36 _ p36 v37 _ p37 v38 _ p38 v39 _ p39 v40 _ p40
        obtain rfl := p40
        clear p0 p1 p2 p3 p4 p5 p6 p7 p8 p9 p10 p11 p12 p13 p14 p15 p16 p17 p18 p19 p20 p21 p22 p23 p24 p25 p26 p27 p28 p29 p30 p31 p32 p33 p34 p35 p36 p37 p38 p39
        simp only [Act.put, List.setIfInBounds_toArray, List.set_cons_succ, List.set_cons_zero]
        have HC2 := Lib.hid hc2
        clear hc2
        go_wp2
        go_roundw
        case rel => exact ⟨k + 1, by omega, by go_num, by rw [HB.out, HBEST.out], HCC.out.trans HC2.out, HBX.out.chg HC2.out (fun x => x)⟩
        case measure => simp [intOf]; omega
      have ha' : ((k : Int) != x) = true := by simpa using ha
      have HA_ := Lib.hid ha
      clear ha
      by_cases hb : (k : Int) = y
      case pos =>
        have hb' : ((k : Int) != y) = false := by simpa using hb
        have HB := Lib.hid (best_no (W := wearAt D) (k := k) (good := freshGood D ⟨x, y, z⟩) (fun hh => HG1.out (.inr (.inl hb)) hh.1))
        clear hb
        refine wp_region_ro (gl := [(6, some true), (12, some true), (18, some false), (24, some false), (27, none)]) (WInv := fun _ _ w5 => Chg NoB w1 w5) (R := Chg NoB) (Post := PV [some (.slice (some ⟨bb, o, none⟩) D.length c), some (.int .i64 (k : Int)), some (.pointer (some ⟨bb, o + k * 2, none⟩)), some (.agg #[.int .i64 D[k].wear, .slice A' D[k].pages.length c']), some (.int .i64 (next D[k])), some (.bool true), some (.bool true), some (.int .i64 (k : Int)), some (.pointer (some ⟨w.heap.size, 0, none⟩)), some (.int .i64 x), some (.bool true), some (.bool true), some (.bool true), some (.int .i64 (k : Int)), some (.pointer (some ⟨w.heap.size, 1, none⟩)), some (.int .i64 y), some (.bool false), some (.bool false), some (.bool false), some (undef), some (undef), some (undef), some (undef), some (.bool false), some (.bool false), some (undef), some (undef), some (undef), some (undef), some (undef), some (undef), some (undef), some (undef), some (undef), some (undef), some (undef), some (undef), some (undef), some (undef), some (undef), some (.bool false)]) (by kernel_rfl) (by kernel_rfl) (pv_guard (by intro p hp; simp only [List.mem_cons, List.not_mem_nil, or_false] at hp; rcases hp with rfl | rfl | rfl | rfl | rfl <;> rfl)) (fun _ _ _ _ h _ _ => h) (fun _ _ _ _ h _ => h) (Chg.refl _ _).drew ⟨?_, ?_, ?_, ?_, ?_, ?_, ?_, ?_, ?_, ?_, ?_, ?_, ?_, ?_, ?_, ?_, ?_, ?_, ?_, ?_, ?_, ?_, ?_, ?_, ?_, ?_, ?_, ?_, ?_, ?_, ?_, ?_, ?_, ?_, ?_, ?_, ?_, ?_, ?_, ?_, ?_, trivial⟩ ?_
        · rintro kc m a w5 hkc hch hm hn
          obtain ⟨e1, -⟩ := hn
          replace e1 : a.tmps[0]?.getD undef = .slice (some ⟨bb, o, none⟩) D.length c := e1
          exact rg_val (v := .slice (some ⟨bb, o, none⟩) D.length c) (by simp [execOp, go_sem, e1]) rfl hch (Chg.refl _ _) rfl
        · rintro kc m a w5 hkc hch hm hn
          obtain ⟨e1, -⟩ := hn
          replace e1 : a.tmps[6]?.getD undef = .int .i64 (k : Int) := e1
          exact rg_val (v := .int .i64 (k : Int)) (by simp [execOp, go_sem, e1]) rfl hch (Chg.refl _ _) rfl
        · rintro kc m a w5 hkc hch hm hn
          obtain ⟨⟨_, e1, _, rfl⟩, ⟨_, e2, _, rfl⟩, -⟩ := hn
          exact rg_val (v := .pointer (some ⟨bb, o + k * 2, none⟩)) (by simp [execOp, go_sem, e1, e2]; exact fun hh => absurd hh (by omega)) rfl hch (Chg.refl _ _) rfl
        · rintro kc m a w5 hkc hch hm hn
          obtain ⟨⟨_, e1, _, rfl⟩, -⟩ := hn
          have c0 := Chg.cell hch c0 (fun x => x)
          have c1 := Chg.cell hch c1 (fun x => x)
          exact rg_val (v := .agg #[.int .i64 D[k].wear, .slice A' D[k].pages.length c']) (by simp [execOp, go_sem, e1, c0, c1]) rfl hch (Chg.refl _ _) rfl
        · rintro kc m a w5 hkc hch hm hn
          obtain ⟨⟨_, e1, _, rfl⟩, -⟩ := hn
          refine rg_call (f := 135) (args := #[.agg #[.int .i64 D[k].wear, .slice A' D[k].pages.length c']]) (by simp [go_sem, e1]) rfl ?_
          refine (sBlockNext_any _ A' c' D[k] _ (HRD.out.new hch) HPL.out).mono ?_
          rintro e w6 ⟨rfl, hc6⟩
          exact ⟨_, rfl, hch.trans hc6, hc6, rfl⟩
        · rintro kc m a w5 hkc hch hm hn
          obtain ⟨⟨_, e1, _, rfl⟩, -⟩ := hn
          exact rg_val (v := .bool true) (by simp [execOp, go_sem, e1, hn]) rfl hch (Chg.refl _ _) rfl
        · rintro kc m a w5 hkc hch hm hn
          obtain ⟨⟨_, e1, _, rfl⟩, -⟩ := hn
          exact rg_val (v := .bool true) (by simp [execOp, go_sem, e1]) rfl hch (Chg.refl _ _) rfl
        · rintro kc m a w5 hkc hch hm hn
          obtain ⟨e1, -⟩ := hn
          replace e1 : a.tmps[6]?.getD undef = .int .i64 (k : Int) := e1
          exact rg_val (v := .int .i64 (k : Int)) (by simp [execOp, go_sem, e1]) rfl hch (Chg.refl _ _) rfl
        · rintro kc m a w5 hkc hch hm hn
          obtain ⟨e1, -⟩ := hn
          replace e1 : a.tmps[3]?.getD undef = .pointer (some ⟨w.heap.size, 0, none⟩) := e1
          exact rg_val (v := .pointer (some ⟨w.heap.size, 0, none⟩)) (by simp [execOp, go_sem, e1]) rfl hch (Chg.refl _ _) rfl
        · rintro kc m a w5 hkc hch hm hn
          obtain ⟨⟨_, e1, _, rfl⟩, -⟩ := hn
          have c0 := Chg.cell hch x0 (fun x => x)
          exact rg_val (v := .int .i64 x) (by simp [execOp, go_sem, e1, c0]) rfl hch (Chg.refl _ _) rfl
        · rintro kc m a w5 hkc hch hm hn
          obtain ⟨⟨_, e1, _, rfl⟩, ⟨_, e2, _, rfl⟩, -⟩ := hn
          exact rg_val (v := .bool true) (by simp [execOp, go_sem, e1, e2, ha']) rfl hch (Chg.refl _ _) rfl
        · rintro kc m a w5 hkc hch hm hn
          obtain ⟨⟨_, e1, _, rfl⟩, ⟨_, e2, _, rfl⟩, -⟩ := hn
          exact rg_val (v := .bool true) (by simp [execOp, go_sem, e1, e2]) rfl hch (Chg.refl _ _) rfl
        · rintro kc m a w5 hkc hch hm hn
          obtain ⟨⟨_, e1, _, rfl⟩, -⟩ := hn
          exact rg_val (v := .bool true) (by simp [execOp, go_sem, e1]) rfl hch (Chg.refl _ _) rfl
        · rintro kc m a w5 hkc hch hm hn
          obtain ⟨e1, -⟩ := hn
          replace e1 : a.tmps[6]?.getD undef = .int .i64 (k : Int) := e1
          exact rg_val (v := .int .i64 (k : Int)) (by simp [execOp, go_sem, e1]) rfl hch (Chg.refl _ _) rfl
        · rintro kc m a w5 hkc hch hm hn
          obtain ⟨e1, -⟩ := hn
          replace e1 : a.tmps[3]?.getD undef = .pointer (some ⟨w.heap.size, 0, none⟩) := e1
          exact rg_val (v := .pointer (some ⟨w.heap.size, 1, none⟩)) (by simp [execOp, go_sem, e1]) rfl hch (Chg.refl _ _) rfl
        · rintro kc m a w5 hkc hch hm hn
          obtain ⟨⟨_, e1, _, rfl⟩, -⟩ := hn
          have c0 := Chg.cell hch x1 (fun x => x)
          exact rg_val (v := .int .i64 y) (by simp [execOp, go_sem, e1, c0]) rfl hch (Chg.refl _ _) rfl
        · rintro kc m a w5 hkc hch hm hn
          obtain ⟨⟨_, e1, _, rfl⟩, ⟨_, e2, _, rfl⟩, -⟩ := hn
          exact rg_val (v := .bool false) (by simp [execOp, go_sem, e1, e2, hb']) rfl hch (Chg.refl _ _) rfl
        · rintro kc m a w5 hkc hch hm hn
          obtain ⟨⟨_, e1, _, rfl⟩, ⟨_, e2, _, rfl⟩, -⟩ := hn
          exact rg_val (v := .bool false) (by simp [execOp, go_sem, e1, e2]) rfl hch (Chg.refl _ _) rfl
        · rintro kc m a w5 hkc hch hm hn
          obtain ⟨⟨_, e1, _, rfl⟩, -⟩ := hn
          exact rg_val (v := .bool false) (by simp [execOp, go_sem, e1]) rfl hch (Chg.refl _ _) rfl
        · rintro kc m w5 hkc hch hm
          exact ⟨hch, Chg.refl _ _, rfl⟩
        · rintro kc m w5 hkc hch hm
          exact ⟨hch, Chg.refl _ _, rfl⟩
        · rintro kc m w5 hkc hch hm
          exact ⟨hch, Chg.refl _ _, rfl⟩
        · rintro kc m w5 hkc hch hm
          exact ⟨hch, Chg.refl _ _, rfl⟩
        · rintro kc m a w5 hkc hch hm hn
          obtain ⟨⟨_, e1, _, rfl⟩, ⟨_, e2, _, rfl⟩, -⟩ := hn
          exact rg_val (v := .bool false) (by simp [execOp, go_sem, e1, e2]) rfl hch (Chg.refl _ _) rfl
        · rintro kc m a w5 hkc hch hm hn
          obtain ⟨⟨_, e1, _, rfl⟩, -⟩ := hn
          exact rg_val (v := .bool false) (by simp [execOp, go_sem, e1]) rfl hch (Chg.refl _ _) rfl
        · rintro kc m w5 hkc hch hm
          exact ⟨hch, Chg.refl _ _, rfl⟩
        · rintro kc m w5 hkc hch hm
          exact ⟨hch, Chg.refl _ _, rfl⟩
        · rintro kc m w5 hkc hch hm
          exact ⟨hch, Chg.refl _ _, rfl⟩
        · rintro kc m w5 hkc hch hm
          exact ⟨hch, Chg.refl _ _, rfl⟩
        · rintro kc m w5 hkc hch hm
          exact ⟨hch, Chg.refl _ _, rfl⟩
        · rintro kc m w5 hkc hch hm
          exact ⟨hch, Chg.refl _ _, rfl⟩
        · rintro kc m w5 hkc hch hm
          exact ⟨hch, Chg.refl _ _, rfl⟩
        · rintro kc m w5 hkc hch hm
          exact ⟨hch, Chg.refl _ _, rfl⟩
        · rintro kc m w5 hkc hch hm
          exact ⟨hch, Chg.refl _ _, rfl⟩
        · rintro kc m w5 hkc hch hm
          exact ⟨hch, Chg.refl _ _, rfl⟩
        · rintro kc m w5 hkc hch hm
          exact ⟨hch, Chg.refl _ _, rfl⟩
        · rintro kc m w5 hkc hch hm
          exact ⟨hch, Chg.refl _ _, rfl⟩
        · rintro kc m w5 hkc hch hm
          exact ⟨hch, Chg.refl _ _, rfl⟩
        · rintro kc m w5 hkc hch hm
          exact ⟨hch, Chg.refl _ _, rfl⟩
        · rintro kc m w5 hkc hch hm
          exact ⟨hch, Chg.refl _ _, rfl⟩
        · rintro kc m a w5 hkc hch hm hn
          obtain ⟨⟨_, e1, _, rfl⟩, ⟨_, e2, _, rfl⟩, -⟩ := hn
          exact rg_val (v := .bool false) (by simp [execOp, go_sem, e1, e2]) rfl hch (Chg.refl _ _) rfl
        rintro m w2 hc2
        simp only [AllVals]
        rintro v0 _ p0 v1 _ p1 v2 _ p2 v3 _ p3 v4 _ p4 v5 _ p5 v6 _ p6 v7 _ p7 v8 _ p8 v9 _ p9 v10 _ p10 v11 _ p11 v12 _ p12 v13 _ p13 v14 _ p14 v15 _ p15 v16 _ p16 v17 _ p17 v18 _ p18 v19 _ p19 v20 _ p20 v21 _ p21 v22 _ p22 v23 _ p23 v24 _ p24 v25 _ p25 v26 _ p26 v27 _ p27 v28 _ p28 v29 _ p29 v30 _ p30 v31 _ p31 v32 _ p32 v33 _ p33 v34 _ p34 v35 _ p35 v36 _ p36 v37 _ p37 v38 _ p38 v39 _ p39 v40 _ p40
        obtain rfl := p40
        clear p0 p1 p2 p3 p4 p5 p6 p7 p8 p9 p10 p11 p12 p13 p14 p15 p16 p17 p18 p19 p20 p21 p22 p23 p24 p25 p26 p27 p28 p29 p30 p31 p32 p33 p34 p35 p36 p37 p38 p39
        simp only [Act.put, List.setIfInBounds_toArray, List.set_cons_succ, List.set_cons_zero]
        have HC2 := Lib.hid hc2
        clear hc2
        go_wp2
        go_roundw
        case rel => exact ⟨k + 1, by omega, by go_num, by rw [HB.out, HBEST.out], HCC.out.trans HC2.out, HBX.out.chg HC2.out (fun x => x)⟩
        case measure => simp [intOf]; omega
      have hb' : ((k : Int) != y) = true := by simpa using hb
      have HB_ := Lib.hid hb
      clear hb
      by_cases hd : (k : Int) = z
      case pos =>
        have hd' : ((k : Int) != z) = false := by simpa using hd
        have HB := Lib.hid (best_no (W := wearAt D) (k := k) (good := freshGood D ⟨x, y, z⟩) (fun hh => HG1.out (.inr (.inr hd)) hh.1))
        clear hd
        refine wp_region_ro (gl := [(6, some true), (12, some true), (18, some true), (24, some false), (27, none)]) (WInv := fun _ _ w5 => Chg NoB w1 w5) (R := Chg NoB) (Post := PV [some (.slice (some ⟨bb, o, none⟩) D.length c), some (.int .i64 (k : Int)), some (.pointer (some ⟨bb, o + k * 2, none⟩)), some (.agg #[.int .i64 D[k].wear, .slice A' D[k].pages.length c']), some (.int .i64 (next D[k])), some (.bool true), some (.bool true), some (.int .i64 (k : Int)), some (.pointer (some ⟨w.heap.size, 0, none⟩)), some (.int .i64 x), some (.bool true), some (.bool true), some (.bool true), some (.int .i64 (k : Int)), some (.pointer (some ⟨w.heap.size, 1, none⟩)), some (.int .i64 y), some (.bool true), some (.bool true), some (.bool true), some (.int .i64 (k : Int)), some (.pointer (some ⟨w.heap.size, 2, none⟩)), some (.int .i64 z), some (.bool false), some (.bool false), some (.bool false), some (undef), some (undef), some (undef), some (undef), some (undef), some (undef), some (undef), some (undef), some (undef), some (undef), some (undef), some (undef), some (undef), some (undef), some (undef), some (.bool false)]) (by kernel_rfl) (by kernel_rfl) (pv_guard (by intro p hp; simp only [List.mem_cons, List.not_mem_nil, or_false] at hp; rcases hp with rfl | rfl | rfl | rfl | rfl <;> rfl)) (fun _ _ _ _ h _ _ => h) (fun _ _ _ _ h _ => h) (Chg.refl _ _).drew ⟨?_, ?_, ?_, ?_, ?_, ?_, ?_, ?_, ?_, ?_, ?_, ?_, ?_, ?_, ?_, ?_, ?_, ?_, ?_, ?_, ?_, ?_, ?_, ?_, ?_, ?_, ?_, ?_, ?_, ?_, ?_, ?_, ?_, ?_, ?_, ?_, ?_, ?_, ?_, ?_, ?_, trivial⟩ ?_
        · rintro kc m a w5 hkc hch hm hn
          obtain ⟨e1, -⟩ := hn
          replace e1 : a.tmps[0]?.getD undef = .slice (some ⟨bb, o, none⟩) D.length c := e1
          exact rg_val (v := .slice (some ⟨bb, o, none⟩) D.length c) (by simp [execOp, go_sem, e1]) rfl hch (Chg.refl _ _) rfl
        · rintro kc m a w5 hkc hch hm hn
          obtain ⟨e1, -⟩ := hn
          replace e1 : a.tmps[6]?.getD undef = .int .i64 (k : Int) := e1
          exact rg_val (v := .int .i64 (k : Int)) (by simp [execOp, go_sem, e1]) rfl hch (Chg.refl _ _) rfl
        · rintro kc m a w5 hkc hch hm hn
          obtain ⟨⟨_, e1, _, rfl⟩, ⟨_, e2, _, rfl⟩, -⟩ := hn
          exact rg_val (v := .pointer (some ⟨bb, o + k * 2, none⟩)) (by simp [execOp, go_sem, e1, e2]; exact fun hh => absurd hh (by omega)) rfl hch (Chg.refl _ _) rfl
        · rintro kc m a w5 hkc hch hm hn
          obtain ⟨⟨_, e1, _, rfl⟩, -⟩ := hn
          have c0 := Chg.cell hch c0 (fun x => x)
          have c1 := Chg.cell hch c1 (fun x => x)
          exact rg_val (v := .agg #[.int .i64 D[k].wear, .slice A' D[k].pages.length c']) (by simp [execOp, go_sem, e1, c0, c1]) rfl hch (Chg.refl _ _) rfl
        · rintro kc m a w5 hkc hch hm hn
          obtain ⟨⟨_, e1, _, rfl⟩, -⟩ := hn
          refine rg_call (f := 135) (args := #[.agg #[.int .i64 D[k].wear, .slice A' D[k].pages.length c']]) (by simp [go_sem, e1]) rfl ?_
          refine (sBlockNext_any _ A' c' D[k] _ (HRD.out.new hch) HPL.out).mono ?_
          rintro e w6 ⟨rfl, hc6⟩
          exact ⟨_, rfl, hch.trans hc6, hc6, rfl⟩
        · rintro kc m a w5 hkc hch hm hn
          obtain ⟨⟨_, e1, _, rfl⟩, -⟩ := hn
          exact rg_val (v := .bool true) (by simp [execOp, go_sem, e1, hn]) rfl hch (Chg.refl _ _) rfl
        · rintro kc m a w5 hkc hch hm hn
          obtain ⟨⟨_, e1, _, rfl⟩, -⟩ := hn
          exact rg_val (v := .bool true) (by simp [execOp, go_sem, e1]) rfl hch (Chg.refl _ _) rfl
        · rintro kc m a w5 hkc hch hm hn
          obtain ⟨e1, -⟩ := hn
          replace e1 : a.tmps[6]?.getD undef = .int .i64 (k : Int) := e1
          exact rg_val (v := .int .i64 (k : Int)) (by simp [execOp, go_sem, e1]) rfl hch (Chg.refl _ _) rfl
        · rintro kc m a w5 hkc hch hm hn
          obtain ⟨e1, -⟩ := hn
          replace e1 : a.tmps[3]?.getD undef = .pointer (some ⟨w.heap.size, 0, none⟩) := e1
          exact rg_val (v := .pointer (some ⟨w.heap.size, 0, none⟩)) (by simp [execOp, go_sem, e1]) rfl hch (Chg.refl _ _) rfl
        · rintro kc m a w5 hkc hch hm hn
          obtain ⟨⟨_, e1, _, rfl⟩, -⟩ := hn
          have c0 := Chg.cell hch x0 (fun x => x)
          exact rg_val (v := .int .i64 x) (by simp [execOp, go_sem, e1, c0]) rfl hch (Chg.refl _ _) rfl
        · rintro kc m a w5 hkc hch hm hn
          obtain ⟨⟨_, e1, _, rfl⟩, ⟨_, e2, _, rfl⟩, -⟩ := hn
          exact rg_val (v := .bool true) (by simp [execOp, go_sem, e1, e2, ha']) rfl hch (Chg.refl _ _) rfl
        · rintro kc m a w5 hkc hch hm hn
          obtain ⟨⟨_, e1, _, rfl⟩, ⟨_, e2, _, rfl⟩, -⟩ := hn
          exact rg_val (v := .bool true) (by simp [execOp, go_sem, e1, e2]) rfl hch (Chg.refl _ _) rfl
        · rintro kc m a w5 hkc hch hm hn
          obtain ⟨⟨_, e1, _, rfl⟩, -⟩ := hn
          exact rg_val (v := .bool true) (by simp [execOp, go_sem, e1]) rfl hch (Chg.refl _ _) rfl
        · rintro kc m a w5 hkc hch hm hn
          obtain ⟨e1, -⟩ := hn
          replace e1 : a.tmps[6]?.getD undef = .int .i64 (k : Int) := e1
          exact rg_val (v := .int .i64 (k : Int)) (by simp [execOp, go_sem, e1]) rfl hch (Chg.refl _ _) rfl
        · rintro kc m a w5 hkc hch hm hn
          obtain ⟨e1, -⟩ := hn
          replace e1 : a.tmps[3]?.getD undef = .pointer (some ⟨w.heap.size, 0, none⟩) := e1
          exact rg_val (v := .pointer (some ⟨w.heap.size, 1, none⟩)) (by simp [execOp, go_sem, e1]) rfl hch (Chg.refl _ _) rfl
        · rintro kc m a w5 hkc hch hm hn
          obtain ⟨⟨_, e1, _, rfl⟩, -⟩ := hn
          have c0 := Chg.cell hch x1 (fun x => x)
          exact rg_val (v := .int .i64 y) (by simp [execOp, go_sem, e1, c0]) rfl hch (Chg.refl _ _) rfl
        · rintro kc m a w5 hkc hch hm hn
          obtain ⟨⟨_, e1, _, rfl⟩, ⟨_, e2, _, rfl⟩, -⟩ := hn
          exact rg_val (v := .bool true) (by simp [execOp, go_sem, e1, e2, hb']) rfl hch (Chg.refl _ _) rfl
        · rintro kc m a w5 hkc hch hm hn
          obtain ⟨⟨_, e1, _, rfl⟩, ⟨_, e2, _, rfl⟩, -⟩ := hn
          exact rg_val (v := .bool true) (by simp [execOp, go_sem, e1, e2]) rfl hch (Chg.refl _ _) rfl
        · rintro kc m a w5 hkc hch hm hn
          obtain ⟨⟨_, e1, _, rfl⟩, -⟩ := hn
          exact rg_val (v := .bool true) (by simp [execOp, go_sem, e1]) rfl hch (Chg.refl _ _) rfl
        · rintro kc m a w5 hkc hch hm hn
          obtain ⟨e1, -⟩ := hn
          replace e1 : a.tmps[6]?.getD undef = .int .i64 (k : Int) := e1
          exact rg_val (v := .int .i64 (k : Int)) (by simp [execOp, go_sem, e1]) rfl hch (Chg.refl _ _) rfl
        · rintro kc m a w5 hkc hch hm hn
          obtain ⟨e1, -⟩ := hn
          replace e1 : a.tmps[3]?.getD undef = .pointer (some ⟨w.heap.size, 0, none⟩) := e1
          exact rg_val (v := .pointer (some ⟨w.heap.size, 2, none⟩)) (by simp [execOp, go_sem, e1]) rfl hch (Chg.refl _ _) rfl
        · rintro kc m a w5 hkc hch hm hn
          obtain ⟨⟨_, e1, _, rfl⟩, -⟩ := hn
          have c0 := Chg.cell hch x2 (fun x => x)
          exact rg_val (v := .int .i64 z) (by simp [execOp, go_sem, e1, c0]) rfl hch (Chg.refl _ _) rfl
        · rintro kc m a w5 hkc hch hm hn
          obtain ⟨⟨_, e1, _, rfl⟩, ⟨_, e2, _, rfl⟩, -⟩ := hn
          exact rg_val (v := .bool false) (by simp [execOp, go_sem, e1, e2, hd']) rfl hch (Chg.refl _ _) rfl
        · rintro kc m a w5 hkc hch hm hn
          obtain ⟨⟨_, e1, _, rfl⟩, ⟨_, e2, _, rfl⟩, -⟩ := hn
          exact rg_val (v := .bool false) (by simp [execOp, go_sem, e1, e2]) rfl hch (Chg.refl _ _) rfl
        · rintro kc m a w5 hkc hch hm hn
          obtain ⟨⟨_, e1, _, rfl⟩, -⟩ := hn
          exact rg_val (v := .bool false) (by simp [execOp, go_sem, e1]) rfl hch (Chg.refl _ _) rfl
        · rintro kc m w5 hkc hch hm
          exact ⟨hch, Chg.refl _ _, rfl⟩
        · rintro kc m w5 hkc hch hm
          exact ⟨hch, Chg.refl _ _, rfl⟩
        · rintro kc m w5 hkc hch hm
          exact ⟨hch, Chg.refl _ _, rfl⟩
        · rintro kc m w5 hkc hch hm
          exact ⟨hch, Chg.refl _ _, rfl⟩
        · rintro kc m w5 hkc hch hm
          exact ⟨hch, Chg.refl _ _, rfl⟩
        · rintro kc m w5 hkc hch hm
          exact ⟨hch, Chg.refl _ _, rfl⟩
        · rintro kc m w5 hkc hch hm
          exact ⟨hch, Chg.refl _ _, rfl⟩
        · rintro kc m w5 hkc hch hm
          exact ⟨hch, Chg.refl _ _, rfl⟩
        · rintro kc m w5 hkc hch hm
          exact ⟨hch, Chg.refl _ _, rfl⟩
        · rintro kc m w5 hkc hch hm
          exact ⟨hch, Chg.refl _ _, rfl⟩
        · rintro kc m w5 hkc hch hm
          exact ⟨hch, Chg.refl _ _, rfl⟩
        · rintro kc m w5 hkc hch hm
          exact ⟨hch, Chg.refl _ _, rfl⟩
        · rintro kc m w5 hkc hch hm
          exact ⟨hch, Chg.refl _ _, rfl⟩
        · rintro kc m w5 hkc hch hm
          exact ⟨hch, Chg.refl _ _, rfl⟩
        · rintro kc m w5 hkc hch hm
          exact ⟨hch, Chg.refl _ _, rfl⟩
        · rintro kc m a w5 hkc hch hm hn
          obtain ⟨⟨_, e1, _, rfl⟩, ⟨_, e2, _, rfl⟩, -⟩ := hn
          exact rg_val (v := .bool false) (by simp [execOp, go_sem, e1, e2]) rfl hch (Chg.refl _ _) rfl
        rintro m w2 hc2
        simp only [AllVals]
        rintro v0 _ p0 v1 _ p1 v2 _ p2 v3 _ p3 v4 _ p4 v5 _ p5 v6 _ p6 v7 _ p7 v8 _ p8 v9 _ p9 v10 _ p10 v11 _ p11 v12 _ p12 v13 _ p13 v14 _ p14 v15 _ p15 v16 _ p16 v17 _ p17 v18 _ p18 v19 _ p19 v20 _ p20 v21 _ p21 v22 _ p22 v23 _ p23 v24 _ p24 v25 _ p25 v26 _ p26 v27 _ p27 v28 _ p28 v29 _ p29 v30 _ p30 v31 _ p31 v32 _ p32 v33 _ p33 v34 _ p34 v35 _ p35 v36 _ p36 v37 _ p37 v38 _ p38 v39 _ p39 v40 _ p40
        obtain rfl := p40
        clear p0 p1 p2 p3 p4 p5 p6 p7 p8 p9 p10 p11 p12 p13 p14 p15 p16 p17 p18 p19 p20 p21 p22 p23 p24 p25 p26 p27 p28 p29 p30 p31 p32 p33 p34 p35 p36 p37 p38 p39
        simp only [Act.put, List.setIfInBounds_toArray, List.set_cons_succ, List.set_cons_zero]
        have HC2 := Lib.hid hc2
        clear hc2
        go_wp2
        go_roundw
        case rel => exact ⟨k + 1, by omega, by go_num, by rw [HB.out, HBEST.out], HCC.out.trans HC2.out, HBX.out.chg HC2.out (fun x => x)⟩
        case measure => simp [intOf]; omega
      have hd' : ((k : Int) != z) = true := by simpa using hd
      have HD_ := Lib.hid hd
      clear hd
      have HGD := Lib.hid (HG2.out HN.out (fun hh => hh.elim HA_.out (fun hh => hh.elim HB_.out HD_.out)))
      by_cases hl : best < 0
      case pos =>
        have HB := Lib.hid (best_yes (W := wearAt D) HGD.out (.inl (by rw [HBEST.out]; exact hl)))
        refine wp_region_ro (gl := [(6, some true), (12, some true), (18, some true), (24, some true), (27, some true)]) (WInv := fun _ _ w5 => Chg NoB w1 w5) (R := Chg NoB) (Post := PV [some (.slice (some ⟨bb, o, none⟩) D.length c), some (.int .i64 (k : Int)), some (.pointer (some ⟨bb, o + k * 2, none⟩)), some (.agg #[.int .i64 D[k].wear, .slice A' D[k].pages.length c']), some (.int .i64 (next D[k])), some (.bool true), some (.bool true), some (.int .i64 (k : Int)), some (.pointer (some ⟨w.heap.size, 0, none⟩)), some (.int .i64 x), some (.bool true), some (.bool true), some (.bool true), some (.int .i64 (k : Int)), some (.pointer (some ⟨w.heap.size, 1, none⟩)), some (.int .i64 y), some (.bool true), some (.bool true), some (.bool true), some (.int .i64 (k : Int)), some (.pointer (some ⟨w.heap.size, 2, none⟩)), some (.int .i64 z), some (.bool true), some (.bool true), some (.bool true), some (.int .i64 best), some (.bool true), some (.bool true), some (undef), some (undef), some (undef), some (undef), some (undef), some (undef), some (undef), some (undef), some (undef), some (undef), some (undef), some (.bool true), some (.bool true)]) (by kernel_rfl) (by kernel_rfl) (pv_guard (by intro p hp; simp only [List.mem_cons, List.not_mem_nil, or_false] at hp; rcases hp with rfl | rfl | rfl | rfl | rfl <;> rfl)) (fun _ _ _ _ h _ _ => h) (fun _ _ _ _ h _ => h) (Chg.refl _ _).drew ⟨?_, ?_, ?_, ?_, ?_, ?_, ?_, ?_, ?_, ?_, ?_, ?_, ?_, ?_, ?_, ?_, ?_, ?_, ?_, ?_, ?_, ?_, ?_, ?_, ?_, ?_, ?_, ?_, ?_, ?_, ?_, ?_, ?_, ?_, ?_, ?_, ?_, ?_, ?_, ?_, ?_, trivial⟩ ?_
        · rintro kc m a w5 hkc hch hm hn
          obtain ⟨e1, -⟩ := hn
          replace e1 : a.tmps[0]?.getD undef = .slice (some ⟨bb, o, none⟩) D.length c := e1
          exact rg_val (v := .slice (some ⟨bb, o, none⟩) D.length c) (by simp [execOp, go_sem, e1]) rfl hch (Chg.refl _ _) rfl
        · rintro kc m a w5 hkc hch hm hn
          obtain ⟨e1, -⟩ := hn
          replace e1 : a.tmps[6]?.getD undef = .int .i64 (k : Int) := e1
          exact rg_val (v := .int .i64 (k : Int)) (by simp [execOp, go_sem, e1]) rfl hch (Chg.refl _ _) rfl
        · rintro kc m a w5 hkc hch hm hn
          obtain ⟨⟨_, e1, _, rfl⟩, ⟨_, e2, _, rfl⟩, -⟩ := hn
          exact rg_val (v := .pointer (some ⟨bb, o + k * 2, none⟩)) (by simp [execOp, go_sem, e1, e2]; exact fun hh => absurd hh (by omega)) rfl hch (Chg.refl _ _) rfl
        · rintro kc m a w5 hkc hch hm hn
          obtain ⟨⟨_, e1, _, rfl⟩, -⟩ := hn
          have c0 := Chg.cell hch c0 (fun x => x)
          have c1 := Chg.cell hch c1 (fun x => x)
          exact rg_val (v := .agg #[.int .i64 D[k].wear, .slice A' D[k].pages.length c']) (by simp [execOp, go_sem, e1, c0, c1]) rfl hch (Chg.refl _ _) rfl
        · rintro kc m a w5 hkc hch hm hn
          obtain ⟨⟨_, e1, _, rfl⟩, -⟩ := hn
          refine rg_call (f := 135) (args := #[.agg #[.int .i64 D[k].wear, .slice A' D[k].pages.length c']]) (by simp [go_sem, e1]) rfl ?_
          refine (sBlockNext_any _ A' c' D[k] _ (HRD.out.new hch) HPL.out).mono ?_
          rintro e w6 ⟨rfl, hc6⟩
          exact ⟨_, rfl, hch.trans hc6, hc6, rfl⟩
        · rintro kc m a w5 hkc hch hm hn
          obtain ⟨⟨_, e1, _, rfl⟩, -⟩ := hn
          exact rg_val (v := .bool true) (by simp [execOp, go_sem, e1, hn]) rfl hch (Chg.refl _ _) rfl
        · rintro kc m a w5 hkc hch hm hn
          obtain ⟨⟨_, e1, _, rfl⟩, -⟩ := hn
          exact rg_val (v := .bool true) (by simp [execOp, go_sem, e1]) rfl hch (Chg.refl _ _) rfl
        · rintro kc m a w5 hkc hch hm hn
          obtain ⟨e1, -⟩ := hn
          replace e1 : a.tmps[6]?.getD undef = .int .i64 (k : Int) := e1
          exact rg_val (v := .int .i64 (k : Int)) (by simp [execOp, go_sem, e1]) rfl hch (Chg.refl _ _) rfl
        · rintro kc m a w5 hkc hch hm hn
          obtain ⟨e1, -⟩ := hn
          replace e1 : a.tmps[3]?.getD undef = .pointer (some ⟨w.heap.size, 0, none⟩) := e1
          exact rg_val (v := .pointer (some ⟨w.heap.size, 0, none⟩)) (by simp [execOp, go_sem, e1]) rfl hch (Chg.refl _ _) rfl
        · rintro kc m a w5 hkc hch hm hn
          obtain ⟨⟨_, e1, _, rfl⟩, -⟩ := hn
          have c0 := Chg.cell hch x0 (fun x => x)
          exact rg_val (v := .int .i64 x) (by simp [execOp, go_sem, e1, c0]) rfl hch (Chg.refl _ _) rfl
        · rintro kc m a w5 hkc hch hm hn
          obtain ⟨⟨_, e1, _, rfl⟩, ⟨_, e2, _, rfl⟩, -⟩ := hn
          exact rg_val (v := .bool true) (by simp [execOp, go_sem, e1, e2, ha']) rfl hch (Chg.refl _ _) rfl
        · rintro kc m a w5 hkc hch hm hn
          obtain ⟨⟨_, e1, _, rfl⟩, ⟨_, e2, _, rfl⟩, -⟩ := hn
          exact rg_val (v := .bool true) (by simp [execOp, go_sem, e1, e2]) rfl hch (Chg.refl _ _) rfl
        · rintro kc m a w5 hkc hch hm hn
          obtain ⟨⟨_, e1, _, rfl⟩, -⟩ := hn
          exact rg_val (v := .bool true) (by simp [execOp, go_sem, e1]) rfl hch (Chg.refl _ _) rfl
        · rintro kc m a w5 hkc hch hm hn
          obtain ⟨e1, -⟩ := hn
          replace e1 : a.tmps[6]?.getD undef = .int .i64 (k : Int) := e1
          exact rg_val (v := .int .i64 (k : Int)) (by simp [execOp, go_sem, e1]) rfl hch (Chg.refl _ _) rfl
        · rintro kc m a w5 hkc hch hm hn
          obtain ⟨e1, -⟩ := hn
          replace e1 : a.tmps[3]?.getD undef = .pointer (some ⟨w.heap.size, 0, none⟩) := e1
          exact rg_val (v := .pointer (some ⟨w.heap.size, 1, none⟩)) (by simp [execOp, go_sem, e1]) rfl hch (Chg.refl _ _) rfl
        · rintro kc m a w5 hkc hch hm hn
          obtain ⟨⟨_, e1, _, rfl⟩, -⟩ := hn
          have c0 := Chg.cell hch x1 (fun x => x)
          exact rg_val (v := .int .i64 y) (by simp [execOp, go_sem, e1, c0]) rfl hch (Chg.refl _ _) rfl
        · rintro kc m a w5 hkc hch hm hn
          obtain ⟨⟨_, e1, _, rfl⟩, ⟨_, e2, _, rfl⟩, -⟩ := hn
          exact rg_val (v := .bool true) (by simp [execOp, go_sem, e1, e2, hb']) rfl hch (Chg.refl _ _) rfl
        · rintro kc m a w5 hkc hch hm hn
          obtain ⟨⟨_, e1, _, rfl⟩, ⟨_, e2, _, rfl⟩, -⟩ := hn
          exact rg_val (v := .bool true) (by simp [execOp, go_sem, e1, e2]) rfl hch (Chg.refl _ _) rfl
        · rintro kc m a w5 hkc hch hm hn
          obtain ⟨⟨_, e1, _, rfl⟩, -⟩ := hn
          exact rg_val (v := .bool true) (by simp [execOp, go_sem, e1]) rfl hch (Chg.refl _ _) rfl
        · rintro kc m a w5 hkc hch hm hn
          obtain ⟨e1, -⟩ := hn
          replace e1 : a.tmps[6]?.getD undef = .int .i64 (k : Int) := e1
          exact rg_val (v := .int .i64 (k : Int)) (by simp [execOp, go_sem, e1]) rfl hch (Chg.refl _ _) rfl
        · rintro kc m a w5 hkc hch hm hn
          obtain ⟨e1, -⟩ := hn
          replace e1 : a.tmps[3]?.getD undef = .pointer (some ⟨w.heap.size, 0, none⟩) := e1
          exact rg_val (v := .pointer (some ⟨w.heap.size, 2, none⟩)) (by simp [execOp, go_sem, e1]) rfl hch (Chg.refl _ _) rfl
        · rintro kc m a w5 hkc hch hm hn
          obtain ⟨⟨_, e1, _, rfl⟩, -⟩ := hn
          have c0 := Chg.cell hch x2 (fun x => x)
          exact rg_val (v := .int .i64 z) (by simp [execOp, go_sem, e1, c0]) rfl hch (Chg.refl _ _) rfl
        · rintro kc m a w5 hkc hch hm hn
          obtain ⟨⟨_, e1, _, rfl⟩, ⟨_, e2, _, rfl⟩, -⟩ := hn
          exact rg_val (v := .bool true) (by simp [execOp, go_sem, e1, e2, hd']) rfl hch (Chg.refl _ _) rfl
        · rintro kc m a w5 hkc hch hm hn
          obtain ⟨⟨_, e1, _, rfl⟩, ⟨_, e2, _, rfl⟩, -⟩ := hn
          exact rg_val (v := .bool true) (by simp [execOp, go_sem, e1, e2]) rfl hch (Chg.refl _ _) rfl
        · rintro kc m a w5 hkc hch hm hn
          obtain ⟨⟨_, e1, _, rfl⟩, -⟩ := hn
          exact rg_val (v := .bool true) (by simp [execOp, go_sem, e1]) rfl hch (Chg.refl _ _) rfl
        · rintro kc m a w5 hkc hch hm hn
          obtain ⟨e1, -⟩ := hn
          replace e1 : a.tmps[5]?.getD undef = .int .i64 best := e1
          exact rg_val (v := .int .i64 best) (by simp [execOp, go_sem, e1]) rfl hch (Chg.refl _ _) rfl
        · rintro kc m a w5 hkc hch hm hn
          obtain ⟨⟨_, e1, _, rfl⟩, -⟩ := hn
          exact rg_val (v := .bool true) (by simp [execOp, go_sem, e1, hl]) rfl hch (Chg.refl _ _) rfl
        · rintro kc m a w5 hkc hch hm hn
          obtain ⟨⟨_, e1, _, rfl⟩, -⟩ := hn
          exact rg_val (v := .bool true) (by simp [execOp, go_sem, e1]) rfl hch (Chg.refl _ _) rfl
        · rintro kc m w5 hkc hch hm
          exact ⟨hch, Chg.refl _ _, rfl⟩
        · rintro kc m w5 hkc hch hm
          exact ⟨hch, Chg.refl _ _, rfl⟩
        · rintro kc m w5 hkc hch hm
          exact ⟨hch, Chg.refl _ _, rfl⟩
        · rintro kc m w5 hkc hch hm
          exact ⟨hch, Chg.refl _ _, rfl⟩
        · rintro kc m w5 hkc hch hm
          exact ⟨hch, Chg.refl _ _, rfl⟩
        · rintro kc m w5 hkc hch hm
          exact ⟨hch, Chg.refl _ _, rfl⟩
        · rintro kc m w5 hkc hch hm
          exact ⟨hch, Chg.refl _ _, rfl⟩
        · rintro kc m w5 hkc hch hm
          exact ⟨hch, Chg.refl _ _, rfl⟩
        · rintro kc m w5 hkc hch hm
          exact ⟨hch, Chg.refl _ _, rfl⟩
        · rintro kc m w5 hkc hch hm
          exact ⟨hch, Chg.refl _ _, rfl⟩
        · rintro kc m w5 hkc hch hm
          exact ⟨hch, Chg.refl _ _, rfl⟩
        · rintro kc m a w5 hkc hch hm hn
          obtain ⟨⟨_, e1, _, rfl⟩, ⟨_, e2, _, rfl⟩, -⟩ := hn
          exact rg_val (v := .bool true) (by simp [execOp, go_sem, e1, e2]) rfl hch (Chg.refl _ _) rfl
        · rintro kc m a w5 hkc hch hm hn
          obtain ⟨⟨_, e1, _, rfl⟩, ⟨_, e2, _, rfl⟩, -⟩ := hn
          exact rg_val (v := .bool true) (by simp [execOp, go_sem, e1, e2]) rfl hch (Chg.refl _ _) rfl
        rintro m w2 hc2
        simp only [AllVals]
        rintro v0 _ p0 v1 _ p1 v2 _ p2 v3 _ p3 v4 _ p4 v5 _ p5 v6 _ p6 v7 _ p7 v8 _ p8 v9 _ p9 v10 _ p10 v11 _ p11 v12 _ p12 v13 _ p13 v14 _ p14 v15 _ p15 v16 _ p16 v17 _ p17 v18 _ p18 v19 _ p19 v20 _ p20 v21 _ p21 v22 _ p22 v23 _ p23 v24 _ p24 v25 _ p25 v26 _ p26 v27 _ p27 v28 _ p28 v29 _ p29 v30 _ p30 v31 _ p31 v32 _ p32 v33 _ p33 v34 _ p34 v35 _ p35 v36 _ p36 v37 _ p37 v38 _ p38 v39 _ p39 v40 _ p40
        obtain rfl := p40
        clear p0 p1 p2 p3 p4 p5 p6 p7 p8 p9 p10 p11 p12 p13 p14 p15 p16 p17 p18 p19 p20 p21 p22 p23 p24 p25 p26 p27 p28 p29 p30 p31 p32 p33 p34 p35 p36 p37 p38 p39
        simp only [Act.put, List.setIfInBounds_toArray, List.set_cons_succ, List.set_cons_zero]
        have HC2 := Lib.hid hc2
        clear hc2
        go_wp2
        go_roundw
        case rel => exact ⟨k + 1, by omega, by go_num, by rw [HB.out], HCC.out.trans HC2.out, HBX.out.chg HC2.out (fun x => x)⟩
        case measure => simp [intOf]; omega
      obtain ⟨j, hj⟩ := Int.eq_ofNat_of_zero_le (show 0 ≤ best by omega)
      have hjl : j < D.length := by omega
      have hl' : ¬ ((j : Int) < 0) := by omega
      obtain ⟨bb', o', A2, c2, e1, -, d0, -⟩ := HRW.out j hjl
      cases e1
      rw [hj] at HBEST ⊢
      clear hj hl
      by_cases hw : D[k].wear < D[j].wear
      case pos =>
        have HB := Lib.hid (best_yes (W := wearAt D) HGD.out (.inr (by rw [HBEST.out, Int.toNat_natCast, wearAt_eq hk, wearAt_eq hjl]; exact hw)))
        refine wp_region_ro (gl := [(6, some true), (12, some true), (18, some true), (24, some true), (27, some false)]) (WInv := fun _ _ w5 => Chg NoB w1 w5) (R := Chg NoB) (Post := PV [some (.slice (some ⟨bb, o, none⟩) D.length c), some (.int .i64 (k : Int)), some (.pointer (some ⟨bb, o + k * 2, none⟩)), some (.agg #[.int .i64 D[k].wear, .slice A' D[k].pages.length c']), some (.int .i64 (next D[k])), some (.bool true), some (.bool true), some (.int .i64 (k : Int)), some (.pointer (some ⟨w.heap.size, 0, none⟩)), some (.int .i64 x), some (.bool true), some (.bool true), some (.bool true), some (.int .i64 (k : Int)), some (.pointer (some ⟨w.heap.size, 1, none⟩)), some (.int .i64 y), some (.bool true), some (.bool true), some (.bool true), some (.int .i64 (k : Int)), some (.pointer (some ⟨w.heap.size, 2, none⟩)), some (.int .i64 z), some (.bool true), some (.bool true), some (.bool true), some (.int .i64 (j : Int)), some (.bool false), some (.bool false), some (.slice (some ⟨bb, o, none⟩) D.length c), some (.int .i64 (k : Int)), some (.pointer (some ⟨bb, o + k * 2, none⟩)), some (.pointer (some ⟨bb, o + k * 2, none⟩)), some (.int .i64 D[k].wear), some (.slice (some ⟨bb, o, none⟩) D.length c), some (.int .i64 (j : Int)), some (.pointer (some ⟨bb, o + j * 2, none⟩)), some (.pointer (some ⟨bb, o + j * 2, none⟩)), some (.int .i64 D[j].wear), some (.bool true), some (.bool true), some (.bool true)]) (by kernel_rfl) (by kernel_rfl) (pv_guard (by intro p hp; simp only [List.mem_cons, List.not_mem_nil, or_false] at hp; rcases hp with rfl | rfl | rfl | rfl | rfl <;> rfl)) (fun _ _ _ _ h _ _ => h) (fun _ _ _ _ h _ => h) (Chg.refl _ _).drew ⟨?_, ?_, ?_, ?_, ?_, ?_, ?_, ?_, ?_, ?_, ?_, ?_, ?_, ?_, ?_, ?_, ?_, ?_, ?_, ?_, ?_, ?_, ?_, ?_, ?_, ?_, ?_, ?_, ?_, ?_, ?_, ?_, ?_, ?_, ?_, ?_, ?_, ?_, ?_, ?_, ?_, trivial⟩ ?_
        · rintro kc m a w5 hkc hch hm hn
          obtain ⟨e1, -⟩ := hn
          replace e1 : a.tmps[0]?.getD undef = .slice (some ⟨bb, o, none⟩) D.length c := e1
          exact rg_val (v := .slice (some ⟨bb, o, none⟩) D.length c) (by simp [execOp, go_sem, e1]) rfl hch (Chg.refl _ _) rfl
        · rintro kc m a w5 hkc hch hm hn
          obtain ⟨e1, -⟩ := hn
          replace e1 : a.tmps[6]?.getD undef = .int .i64 (k : Int) := e1
          exact rg_val (v := .int .i64 (k : Int)) (by simp [execOp, go_sem, e1]) rfl hch (Chg.refl _ _) rfl
        · rintro kc m a w5 hkc hch hm hn
          obtain ⟨⟨_, e1, _, rfl⟩, ⟨_, e2, _, rfl⟩, -⟩ := hn
          exact rg_val (v := .pointer (some ⟨bb, o + k * 2, none⟩)) (by simp [execOp, go_sem, e1, e2]; exact fun hh => absurd hh (by omega)) rfl hch (Chg.refl _ _) rfl
        · rintro kc m a w5 hkc hch hm hn
          obtain ⟨⟨_, e1, _, rfl⟩, -⟩ := hn
          have c0 := Chg.cell hch c0 (fun x => x)
          have c1 := Chg.cell hch c1 (fun x => x)
          exact rg_val (v := .agg #[.int .i64 D[k].wear, .slice A' D[k].pages.length c']) (by simp [execOp, go_sem, e1, c0, c1]) rfl hch (Chg.refl _ _) rfl
        · rintro kc m a w5 hkc hch hm hn
          obtain ⟨⟨_, e1, _, rfl⟩, -⟩ := hn
          refine rg_call (f := 135) (args := #[.agg #[.int .i64 D[k].wear, .slice A' D[k].pages.length c']]) (by simp [go_sem, e1]) rfl ?_
          refine (sBlockNext_any _ A' c' D[k] _ (HRD.out.new hch) HPL.out).mono ?_
          rintro e w6 ⟨rfl, hc6⟩
          exact ⟨_, rfl, hch.trans hc6, hc6, rfl⟩
        · rintro kc m a w5 hkc hch hm hn
          obtain ⟨⟨_, e1, _, rfl⟩, -⟩ := hn
          exact rg_val (v := .bool true) (by simp [execOp, go_sem, e1, hn]) rfl hch (Chg.refl _ _) rfl
        · rintro kc m a w5 hkc hch hm hn
          obtain ⟨⟨_, e1, _, rfl⟩, -⟩ := hn
          exact rg_val (v := .bool true) (by simp [execOp, go_sem, e1]) rfl hch (Chg.refl _ _) rfl
        · rintro kc m a w5 hkc hch hm hn
          obtain ⟨e1, -⟩ := hn
          replace e1 : a.tmps[6]?.getD undef = .int .i64 (k : Int) := e1
          exact rg_val (v := .int .i64 (k : Int)) (by simp [execOp, go_sem, e1]) rfl hch (Chg.refl _ _) rfl
        · rintro kc m a w5 hkc hch hm hn
          obtain ⟨e1, -⟩ := hn
          replace e1 : a.tmps[3]?.getD undef = .pointer (some ⟨w.heap.size, 0, none⟩) := e1
          exact rg_val (v := .pointer (some ⟨w.heap.size, 0, none⟩)) (by simp [execOp, go_sem, e1]) rfl hch (Chg.refl _ _) rfl
        · rintro kc m a w5 hkc hch hm hn
          obtain ⟨⟨_, e1, _, rfl⟩, -⟩ := hn
          have c0 := Chg.cell hch x0 (fun x => x)
          exact rg_val (v := .int .i64 x) (by simp [execOp, go_sem, e1, c0]) rfl hch (Chg.refl _ _) rfl
        · rintro kc m a w5 hkc hch hm hn
          obtain ⟨⟨_, e1, _, rfl⟩, ⟨_, e2, _, rfl⟩, -⟩ := hn
          exact rg_val (v := .bool true) (by simp [execOp, go_sem, e1, e2, ha']) rfl hch (Chg.refl _ _) rfl
        · rintro kc m a w5 hkc hch hm hn
          obtain ⟨⟨_, e1, _, rfl⟩, ⟨_, e2, _, rfl⟩, -⟩ := hn
          exact rg_val (v := .bool true) (by simp [execOp, go_sem, e1, e2]) rfl hch (Chg.refl _ _) rfl
        · rintro kc m a w5 hkc hch hm hn
          obtain ⟨⟨_, e1, _, rfl⟩, -⟩ := hn
          exact rg_val (v := .bool true) (by simp [execOp, go_sem, e1]) rfl hch (Chg.refl _ _) rfl
        · rintro kc m a w5 hkc hch hm hn
          obtain ⟨e1, -⟩ := hn
          replace e1 : a.tmps[6]?.getD undef = .int .i64 (k : Int) := e1
          exact rg_val (v := .int .i64 (k : Int)) (by simp [execOp, go_sem, e1]) rfl hch (Chg.refl _ _) rfl
        · rintro kc m a w5 hkc hch hm hn
          obtain ⟨e1, -⟩ := hn
          replace e1 : a.tmps[3]?.getD undef = .pointer (some ⟨w.heap.size, 0, none⟩) := e1
          exact rg_val (v := .pointer (some ⟨w.heap.size, 1, none⟩)) (by simp [execOp, go_sem, e1]) rfl hch (Chg.refl _ _) rfl
        · rintro kc m a w5 hkc hch hm hn
          obtain ⟨⟨_, e1, _, rfl⟩, -⟩ := hn
          have c0 := Chg.cell hch x1 (fun x => x)
          exact rg_val (v := .int .i64 y) (by simp [execOp, go_sem, e1, c0]) rfl hch (Chg.refl _ _) rfl
        · rintro kc m a w5 hkc hch hm hn
          obtain ⟨⟨_, e1, _, rfl⟩, ⟨_, e2, _, rfl⟩, -⟩ := hn
          exact rg_val (v := .bool true) (by simp [execOp, go_sem, e1, e2, hb']) rfl hch (Chg.refl _ _) rfl
        · rintro kc m a w5 hkc hch hm hn
          obtain ⟨⟨_, e1, _, rfl⟩, ⟨_, e2, _, rfl⟩, -⟩ := hn
          exact rg_val (v := .bool true) (by simp [execOp, go_sem, e1, e2]) rfl hch (Chg.refl _ _) rfl
        · rintro kc m a w5 hkc hch hm hn
          obtain ⟨⟨_, e1, _, rfl⟩, -⟩ := hn
          exact rg_val (v := .bool true) (by simp [execOp, go_sem, e1]) rfl hch (Chg.refl _ _) rfl
        · rintro kc m a w5 hkc hch hm hn
          obtain ⟨e1, -⟩ := hn
          replace e1 : a.tmps[6]?.getD undef = .int .i64 (k : Int) := e1
          exact rg_val (v := .int .i64 (k : Int)) (by simp [execOp, go_sem, e1]) rfl hch (Chg.refl _ _) rfl
        · rintro kc m a w5 hkc hch hm hn
          obtain ⟨e1, -⟩ := hn
          replace e1 : a.tmps[3]?.getD undef = .pointer (some ⟨w.heap.size, 0, none⟩) := e1
          exact rg_val (v := .pointer (some ⟨w.heap.size, 2, none⟩)) (by simp [execOp, go_sem, e1]) rfl hch (Chg.refl _ _) rfl
        · rintro kc m a w5 hkc hch hm hn
          obtain ⟨⟨_, e1, _, rfl⟩, -⟩ := hn
          have c0 := Chg.cell hch x2 (fun x => x)
          exact rg_val (v := .int .i64 z) (by simp [execOp, go_sem, e1, c0]) rfl hch (Chg.refl _ _) rfl
        · rintro kc m a w5 hkc hch hm hn
          obtain ⟨⟨_, e1, _, rfl⟩, ⟨_, e2, _, rfl⟩, -⟩ := hn
          exact rg_val (v := .bool true) (by simp [execOp, go_sem, e1, e2, hd']) rfl hch (Chg.refl _ _) rfl
        · rintro kc m a w5 hkc hch hm hn
          obtain ⟨⟨_, e1, _, rfl⟩, ⟨_, e2, _, rfl⟩, -⟩ := hn
          exact rg_val (v := .bool true) (by simp [execOp, go_sem, e1, e2]) rfl hch (Chg.refl _ _) rfl
        · rintro kc m a w5 hkc hch hm hn
          obtain ⟨⟨_, e1, _, rfl⟩, -⟩ := hn
          exact rg_val (v := .bool true) (by simp [execOp, go_sem, e1]) rfl hch (Chg.refl _ _) rfl
        · rintro kc m a w5 hkc hch hm hn
          obtain ⟨e1, -⟩ := hn
          replace e1 : a.tmps[5]?.getD undef = .int .i64 (j : Int) := e1
          exact rg_val (v := .int .i64 (j : Int)) (by simp [execOp, go_sem, e1]) rfl hch (Chg.refl _ _) rfl
        · rintro kc m a w5 hkc hch hm hn
          obtain ⟨⟨_, e1, _, rfl⟩, -⟩ := hn
          exact rg_val (v := .bool false) (by simp [execOp, go_sem, e1]) rfl hch (Chg.refl _ _) rfl
        · rintro kc m a w5 hkc hch hm hn
          obtain ⟨⟨_, e1, _, rfl⟩, -⟩ := hn
          exact rg_val (v := .bool false) (by simp [execOp, go_sem, e1]) rfl hch (Chg.refl _ _) rfl
        · rintro kc m a w5 hkc hch hm hn
          obtain ⟨e1, -⟩ := hn
          replace e1 : a.tmps[0]?.getD undef = .slice (some ⟨bb, o, none⟩) D.length c := e1
          exact rg_val (v := .slice (some ⟨bb, o, none⟩) D.length c) (by simp [execOp, go_sem, e1]) rfl hch (Chg.refl _ _) rfl
        · rintro kc m a w5 hkc hch hm hn
          obtain ⟨e1, -⟩ := hn
          replace e1 : a.tmps[6]?.getD undef = .int .i64 (k : Int) := e1
          exact rg_val (v := .int .i64 (k : Int)) (by simp [execOp, go_sem, e1]) rfl hch (Chg.refl _ _) rfl
        · rintro kc m a w5 hkc hch hm hn
          obtain ⟨⟨_, e1, _, rfl⟩, ⟨_, e2, _, rfl⟩, -⟩ := hn
          exact rg_val (v := .pointer (some ⟨bb, o + k * 2, none⟩)) (by simp [execOp, go_sem, e1, e2]; exact fun hh => absurd hh (by omega)) rfl hch (Chg.refl _ _) rfl
        · rintro kc m a w5 hkc hch hm hn
          obtain ⟨⟨_, e1, _, rfl⟩, -⟩ := hn
          exact rg_val (v := .pointer (some ⟨bb, o + k * 2, none⟩)) (by simp [execOp, go_sem, e1]) rfl hch (Chg.refl _ _) rfl
        · rintro kc m a w5 hkc hch hm hn
          obtain ⟨⟨_, e1, _, rfl⟩, -⟩ := hn
          have c0 := Chg.cell hch c0 (fun x => x)
          exact rg_val (v := .int .i64 D[k].wear) (by simp [execOp, go_sem, e1, c0]) rfl hch (Chg.refl _ _) rfl
        · rintro kc m a w5 hkc hch hm hn
          obtain ⟨e1, -⟩ := hn
          replace e1 : a.tmps[0]?.getD undef = .slice (some ⟨bb, o, none⟩) D.length c := e1
          exact rg_val (v := .slice (some ⟨bb, o, none⟩) D.length c) (by simp [execOp, go_sem, e1]) rfl hch (Chg.refl _ _) rfl
        · rintro kc m a w5 hkc hch hm hn
          obtain ⟨e1, -⟩ := hn
          replace e1 : a.tmps[5]?.getD undef = .int .i64 (j : Int) := e1
          exact rg_val (v := .int .i64 (j : Int)) (by simp [execOp, go_sem, e1]) rfl hch (Chg.refl _ _) rfl
        · rintro kc m a w5 hkc hch hm hn
          obtain ⟨⟨_, e1, _, rfl⟩, ⟨_, e2, _, rfl⟩, -⟩ := hn
          exact rg_val (v := .pointer (some ⟨bb, o + j * 2, none⟩)) (by simp [execOp, go_sem, e1, e2]; exact fun hh => absurd hh (by omega)) rfl hch (Chg.refl _ _) rfl
        · rintro kc m a w5 hkc hch hm hn
          obtain ⟨⟨_, e1, _, rfl⟩, -⟩ := hn
          exact rg_val (v := .pointer (some ⟨bb, o + j * 2, none⟩)) (by simp [execOp, go_sem, e1]) rfl hch (Chg.refl _ _) rfl
        · rintro kc m a w5 hkc hch hm hn
          obtain ⟨⟨_, e1, _, rfl⟩, -⟩ := hn
          have c0 := Chg.cell hch d0 (fun x => x)
          exact rg_val (v := .int .i64 D[j].wear) (by simp [execOp, go_sem, e1, c0]) rfl hch (Chg.refl _ _) rfl
        · rintro kc m a w5 hkc hch hm hn
          obtain ⟨⟨_, e1, _, rfl⟩, ⟨_, e2, _, rfl⟩, -⟩ := hn
          exact rg_val (v := .bool true) (by simp [execOp, go_sem, e1, e2, hw]) rfl hch (Chg.refl _ _) rfl
        · rintro kc m a w5 hkc hch hm hn
          obtain ⟨⟨_, e1, _, rfl⟩, ⟨_, e2, _, rfl⟩, -⟩ := hn
          exact rg_val (v := .bool true) (by simp [execOp, go_sem, e1, e2]) rfl hch (Chg.refl _ _) rfl
        · rintro kc m a w5 hkc hch hm hn
          obtain ⟨⟨_, e1, _, rfl⟩, ⟨_, e2, _, rfl⟩, -⟩ := hn
          exact rg_val (v := .bool true) (by simp [execOp, go_sem, e1, e2]) rfl hch (Chg.refl _ _) rfl
        rintro m w2 hc2
        simp only [AllVals]
        rintro v0 _ p0 v1 _ p1 v2 _ p2 v3 _ p3 v4 _ p4 v5 _ p5 v6 _ p6 v7 _ p7 v8 _ p8 v9 _ p9 v10 _ p10 v11 _ p11 v12 _ p12 v13 _ p13 v14 _ p14 v15 _ p15 v16 _ p16 v17 _ p17 v18 _ p18 v19 _ p19 v20 _ p20 v21 _ p21 v22 _ p22 v23 _ p23 v24 _ p24 v25 _ p25 v26 _ p26 v27 _ p27 v28 _ p28 v29 _ p29 v30 _ p30 v31 _ p31 v32 _ p32 v33 _ p33 v34 _ p34 v35 _ p35 v36 _ p36 v37 _ p37 v38 _ p38 v39 _ p39 v40 _ p40
        obtain rfl := p40
        clear p0 p1 p2 p3 p4 p5 p6 p7 p8 p9 p10 p11 p12 p13 p14 p15 p16 p17 p18 p19 p20 p21 p22 p23 p24 p25 p26 p27 p28 p29 p30 p31 p32 p33 p34 p35 p36 p37 p38 p39
        simp only [Act.put, List.setIfInBounds_toArray, List.set_cons_succ, List.set_cons_zero]
        have HC2 := Lib.hid hc2
        clear hc2
        go_wp2
        go_roundw
        case rel => exact ⟨k + 1, by omega, by go_num, by rw [HB.out], HCC.out.trans HC2.out, HBX.out.chg HC2.out (fun x => x)⟩
        case measure => simp [intOf]; omega
      have HB := Lib.hid (best_no (W := wearAt D) (k := k) (good := freshGood D ⟨x, y, z⟩) (fun hh => hh.2.elim (by rw [HBEST.out]; exact hl') (by rw [HBEST.out, Int.toNat_natCast, wearAt_eq hk, wearAt_eq hjl]; exact hw)))
      refine wp_region_ro (gl := [(6, some true), (12, some true), (18, some true), (24, some true), (27, some false)]) (WInv := fun _ _ w5 => Chg NoB w1 w5) (R := Chg NoB) (Post := PV [some (.slice (some ⟨bb, o, none⟩) D.length c), some (.int .i64 (k : Int)), some (.pointer (some ⟨bb, o + k * 2, none⟩)), some (.agg #[.int .i64 D[k].wear, .slice A' D[k].pages.length c']), some (.int .i64 (next D[k])), some (.bool true), some (.bool true), some (.int .i64 (k : Int)), some (.pointer (some ⟨w.heap.size, 0, none⟩)), some (.int .i64 x), some (.bool true), some (.bool true), some (.bool true), some (.int .i64 (k : Int)), some (.pointer (some ⟨w.heap.size, 1, none⟩)), some (.int .i64 y), some (.bool true), some (.bool true), some (.bool true), some (.int .i64 (k : Int)), some (.pointer (some ⟨w.heap.size, 2, none⟩)), some (.int .i64 z), some (.bool true), some (.bool true), some (.bool true), some (.int .i64 (j : Int)), some (.bool false), some (.bool false), some (.slice (some ⟨bb, o, none⟩) D.length c), some (.int .i64 (k : Int)), some (.pointer (some ⟨bb, o + k * 2, none⟩)), some (.pointer (some ⟨bb, o + k * 2, none⟩)), some (.int .i64 D[k].wear), some (.slice (some ⟨bb, o, none⟩) D.length c), some (.int .i64 (j : Int)), some (.pointer (some ⟨bb, o + j * 2, none⟩)), some (.pointer (some ⟨bb, o + j * 2, none⟩)), some (.int .i64 D[j].wear), some (.bool false), some (.bool false), some (.bool false)]) (by kernel_rfl) (by kernel_rfl) (pv_guard (by intro p hp; simp only [List.mem_cons, List.not_mem_nil, or_false] at hp; rcases hp with rfl | rfl | rfl | rfl | rfl <;> rfl)) (fun _ _ _ _ h _ _ => h) (fun _ _ _ _ h _ => h) (Chg.refl _ _).drew ⟨?_, ?_, ?_, ?_, ?_, ?_, ?_, ?_, ?_, ?_, ?_, ?_, ?_, ?_, ?_, ?_, ?_, ?_, ?_, ?_, ?_, ?_, ?_, ?_, ?_, ?_, ?_, ?_, ?_, ?_, ?_, ?_, ?_, ?_, ?_, ?_, ?_, ?_, ?_, ?_, ?_, trivial⟩ ?_
      · rintro kc m a w5 hkc hch hm hn
        obtain ⟨e1, -⟩ := hn
        replace e1 : a.tmps[0]?.getD undef = .slice (some ⟨bb, o, none⟩) D.length c := e1
        exact rg_val (v := .slice (some ⟨bb, o, none⟩) D.length c) (by simp [execOp, go_sem, e1]) rfl hch (Chg.refl _ _) rfl
      · rintro kc m a w5 hkc hch hm hn
        obtain ⟨e1, -⟩ := hn
        replace e1 : a.tmps[6]?.getD undef = .int .i64 (k : Int) := e1
        exact rg_val (v := .int .i64 (k : Int)) (by simp [execOp, go_sem, e1]) rfl hch (Chg.refl _ _) rfl
      · rintro kc m a w5 hkc hch hm hn
        obtain ⟨⟨_, e1, _, rfl⟩, ⟨_, e2, _, rfl⟩, -⟩ := hn
        exact rg_val (v := .pointer (some ⟨bb, o + k * 2, none⟩)) (by simp [execOp, go_sem, e1, e2]; exact fun hh => absurd hh (by omega)) rfl hch (Chg.refl _ _) rfl
      · rintro kc m a w5 hkc hch hm hn
        obtain ⟨⟨_, e1, _, rfl⟩, -⟩ := hn
        have c0 := Chg.cell hch c0 (fun x => x)
        have c1 := Chg.cell hch c1 (fun x => x)
        exact rg_val (v := .agg #[.int .i64 D[k].wear, .slice A' D[k].pages.length c']) (by simp [execOp, go_sem, e1, c0, c1]) rfl hch (Chg.refl _ _) rfl
      · rintro kc m a w5 hkc hch hm hn
        obtain ⟨⟨_, e1, _, rfl⟩, -⟩ := hn
        refine rg_call (f := 135) (args := #[.agg #[.int .i64 D[k].wear, .slice A' D[k].pages.length c']]) (by simp [go_sem, e1]) rfl ?_
        refine (sBlockNext_any _ A' c' D[k] _ (HRD.out.new hch) HPL.out).mono ?_
        rintro e w6 ⟨rfl, hc6⟩
        exact ⟨_, rfl, hch.trans hc6, hc6, rfl⟩
      · rintro kc m a w5 hkc hch hm hn
        obtain ⟨⟨_, e1, _, rfl⟩, -⟩ := hn
        exact rg_val (v := .bool true) (by simp [execOp, go_sem, e1, hn]) rfl hch (Chg.refl _ _) rfl
      · rintro kc m a w5 hkc hch hm hn
        obtain ⟨⟨_, e1, _, rfl⟩, -⟩ := hn
        exact rg_val (v := .bool true) (by simp [execOp, go_sem, e1]) rfl hch (Chg.refl _ _) rfl
      · rintro kc m a w5 hkc hch hm hn
        obtain ⟨e1, -⟩ := hn
        replace e1 : a.tmps[6]?.getD undef = .int .i64 (k : Int) := e1
        exact rg_val (v := .int .i64 (k : Int)) (by simp [execOp, go_sem, e1]) rfl hch (Chg.refl _ _) rfl
      · rintro kc m a w5 hkc hch hm hn
        obtain ⟨e1, -⟩ := hn
        replace e1 : a.tmps[3]?.getD undef = .pointer (some ⟨w.heap.size, 0, none⟩) := e1
        exact rg_val (v := .pointer (some ⟨w.heap.size, 0, none⟩)) (by simp [execOp, go_sem, e1]) rfl hch (Chg.refl _ _) rfl
      · rintro kc m a w5 hkc hch hm hn
        obtain ⟨⟨_, e1, _, rfl⟩, -⟩ := hn
        have c0 := Chg.cell hch x0 (fun x => x)
        exact rg_val (v := .int .i64 x) (by simp [execOp, go_sem, e1, c0]) rfl hch (Chg.refl _ _) rfl
      · rintro kc m a w5 hkc hch hm hn
        obtain ⟨⟨_, e1, _, rfl⟩, ⟨_, e2, _, rfl⟩, -⟩ := hn
        exact rg_val (v := .bool true) (by simp [execOp, go_sem, e1, e2, ha']) rfl hch (Chg.refl _ _) rfl
      · rintro kc m a w5 hkc hch hm hn
        obtain ⟨⟨_, e1, _, rfl⟩, ⟨_, e2, _, rfl⟩, -⟩ := hn
        exact rg_val (v := .bool true) (by simp [execOp, go_sem, e1, e2]) rfl hch (Chg.refl _ _) rfl
      · rintro kc m a w5 hkc hch hm hn
        obtain ⟨⟨_, e1, _, rfl⟩, -⟩ := hn
        exact rg_val (v := .bool true) (by simp [execOp, go_sem, e1]) rfl hch (Chg.refl _ _) rfl
      · rintro kc m a w5 hkc hch hm hn
        obtain ⟨e1, -⟩ := hn
        replace e1 : a.tmps[6]?.getD undef = .int .i64 (k : Int) := e1
        exact rg_val (v := .int .i64 (k : Int)) (by simp [execOp, go_sem, e1]) rfl hch (Chg.refl _ _) rfl
      · rintro kc m a w5 hkc hch hm hn
        obtain ⟨e1, -⟩ := hn
        replace e1 : a.tmps[3]?.getD undef = .pointer (some ⟨w.heap.size, 0, none⟩) := e1
        exact rg_val (v := .pointer (some ⟨w.heap.size, 1, none⟩)) (by simp [execOp, go_sem, e1]) rfl hch (Chg.refl _ _) rfl
      · rintro kc m a w5 hkc hch hm hn
        obtain ⟨⟨_, e1, _, rfl⟩, -⟩ := hn
        have c0 := Chg.cell hch x1 (fun x => x)
        exact rg_val (v := .int .i64 y) (by simp [execOp, go_sem, e1, c0]) rfl hch (Chg.refl _ _) rfl
      · rintro kc m a w5 hkc hch hm hn
        obtain ⟨⟨_, e1, _, rfl⟩, ⟨_, e2, _, rfl⟩, -⟩ := hn
        exact rg_val (v := .bool true) (by simp [execOp, go_sem, e1, e2, hb']) rfl hch (Chg.refl _ _) rfl
      · rintro kc m a w5 hkc hch hm hn
        obtain ⟨⟨_, e1, _, rfl⟩, ⟨_, e2, _, rfl⟩, -⟩ := hn
        exact rg_val (v := .bool true) (by simp [execOp, go_sem, e1, e2]) rfl hch (Chg.refl _ _) rfl
      · rintro kc m a w5 hkc hch hm hn
        obtain ⟨⟨_, e1, _, rfl⟩, -⟩ := hn
        exact rg_val (v := .bool true) (by simp [execOp, go_sem, e1]) rfl hch (Chg.refl _ _) rfl
      · rintro kc m a w5 hkc hch hm hn
        obtain ⟨e1, -⟩ := hn
        replace e1 : a.tmps[6]?.getD undef = .int .i64 (k : Int) := e1
        exact rg_val (v := .int .i64 (k : Int)) (by simp [execOp, go_sem, e1]) rfl hch (Chg.refl _ _) rfl
      · rintro kc m a w5 hkc hch hm hn
        obtain ⟨e1, -⟩ := hn
        replace e1 : a.tmps[3]?.getD undef = .pointer (some ⟨w.heap.size, 0, none⟩) := e1
        exact rg_val (v := .pointer (some ⟨w.heap.size, 2, none⟩)) (by simp [execOp, go_sem, e1]) rfl hch (Chg.refl _ _) rfl
      · rintro kc m a w5 hkc hch hm hn
        obtain ⟨⟨_, e1, _, rfl⟩, -⟩ := hn
        have c0 := Chg.cell hch x2 (fun x => x)
        exact rg_val (v := .int .i64 z) (by simp [execOp, go_sem, e1, c0]) rfl hch (Chg.refl _ _) rfl
      · rintro kc m a w5 hkc hch hm hn
        obtain ⟨⟨_, e1, _, rfl⟩, ⟨_, e2, _, rfl⟩, -⟩ := hn
        exact rg_val (v := .bool true) (by simp [execOp, go_sem, e1, e2, hd']) rfl hch (Chg.refl _ _) rfl
      · rintro kc m a w5 hkc hch hm hn
        obtain ⟨⟨_, e1, _, rfl⟩, ⟨_, e2, _, rfl⟩, -⟩ := hn
        exact rg_val (v := .bool true) (by simp [execOp, go_sem, e1, e2]) rfl hch (Chg.refl _ _) rfl
      · rintro kc m a w5 hkc hch hm hn
        obtain ⟨⟨_, e1, _, rfl⟩, -⟩ := hn
        exact rg_val (v := .bool true) (by simp [execOp, go_sem, e1]) rfl hch (Chg.refl _ _) rfl
      · rintro kc m a w5 hkc hch hm hn
        obtain ⟨e1, -⟩ := hn
        replace e1 : a.tmps[5]?.getD undef = .int .i64 (j : Int) := e1
        exact rg_val (v := .int .i64 (j : Int)) (by simp [execOp, go_sem, e1]) rfl hch (Chg.refl _ _) rfl
      · rintro kc m a w5 hkc hch hm hn
        obtain ⟨⟨_, e1, _, rfl⟩, -⟩ := hn
        exact rg_val (v := .bool false) (by simp [execOp, go_sem, e1]) rfl hch (Chg.refl _ _) rfl
      · rintro kc m a w5 hkc hch hm hn
        obtain ⟨⟨_, e1, _, rfl⟩, -⟩ := hn
        exact rg_val (v := .bool false) (by simp [execOp, go_sem, e1]) rfl hch (Chg.refl _ _) rfl
      · rintro kc m a w5 hkc hch hm hn
        obtain ⟨e1, -⟩ := hn
        replace e1 : a.tmps[0]?.getD undef = .slice (some ⟨bb, o, none⟩) D.length c := e1
        exact rg_val (v := .slice (some ⟨bb, o, none⟩) D.length c) (by simp [execOp, go_sem, e1]) rfl hch (Chg.refl _ _) rfl
      · rintro kc m a w5 hkc hch hm hn
        obtain ⟨e1, -⟩ := hn
        replace e1 : a.tmps[6]?.getD undef = .int .i64 (k : Int) := e1
        exact rg_val (v := .int .i64 (k : Int)) (by simp [execOp, go_sem, e1]) rfl hch (Chg.refl _ _) rfl
      · rintro kc m a w5 hkc hch hm hn
        obtain ⟨⟨_, e1, _, rfl⟩, ⟨_, e2, _, rfl⟩, -⟩ := hn
        exact rg_val (v := .pointer (some ⟨bb, o + k * 2, none⟩)) (by simp [execOp, go_sem, e1, e2]; exact fun hh => absurd hh (by omega)) rfl hch (Chg.refl _ _) rfl
      · rintro kc m a w5 hkc hch hm hn
        obtain ⟨⟨_, e1, _, rfl⟩, -⟩ := hn
        exact rg_val (v := .pointer (some ⟨bb, o + k * 2, none⟩)) (by simp [execOp, go_sem, e1]) rfl hch (Chg.refl _ _) rfl
      · rintro kc m a w5 hkc hch hm hn
        obtain ⟨⟨_, e1, _, rfl⟩, -⟩ := hn
        have c0 := Chg.cell hch c0 (fun x => x)
        exact rg_val (v := .int .i64 D[k].wear) (by simp [execOp, go_sem, e1, c0]) rfl hch (Chg.refl _ _) rfl
      · rintro kc m a w5 hkc hch hm hn
        obtain ⟨e1, -⟩ := hn
        replace e1 : a.tmps[0]?.getD undef = .slice (some ⟨bb, o, none⟩) D.length c := e1
        exact rg_val (v := .slice (some ⟨bb, o, none⟩) D.length c) (by simp [execOp, go_sem, e1]) rfl hch (Chg.refl _ _) rfl
      · rintro kc m a w5 hkc hch hm hn
        obtain ⟨e1, -⟩ := hn
        replace e1 : a.tmps[5]?.getD undef = .int .i64 (j : Int) := e1
        exact rg_val (v := .int .i64 (j : Int)) (by simp [execOp, go_sem, e1]) rfl hch (Chg.refl _ _) rfl
      · rintro kc m a w5 hkc hch hm hn
        obtain ⟨⟨_, e1, _, rfl⟩, ⟨_, e2, _, rfl⟩, -⟩ := hn
        exact rg_val (v := .pointer (some ⟨bb, o + j * 2, none⟩)) (by simp [execOp, go_sem, e1, e2]; exact fun hh => absurd hh (by omega)) rfl hch (Chg.refl _ _) rfl
      · rintro kc m a w5 hkc hch hm hn
        obtain ⟨⟨_, e1, _, rfl⟩, -⟩ := hn
        exact rg_val (v := .pointer (some ⟨bb, o + j * 2, none⟩)) (by simp [execOp, go_sem, e1]) rfl hch (Chg.refl _ _) rfl
      · rintro kc m a w5 hkc hch hm hn
        obtain ⟨⟨_, e1, _, rfl⟩, -⟩ := hn
        have c0 := Chg.cell hch d0 (fun x => x)
        exact rg_val (v := .int .i64 D[j].wear) (by simp [execOp, go_sem, e1, c0]) rfl hch (Chg.refl _ _) rfl
      · rintro kc m a w5 hkc hch hm hn
        obtain ⟨⟨_, e1, _, rfl⟩, ⟨_, e2, _, rfl⟩, -⟩ := hn
        exact rg_val (v := .bool false) (by simp [execOp, go_sem, e1, e2, hw]) rfl hch (Chg.refl _ _) rfl
      · rintro kc m a w5 hkc hch hm hn
        obtain ⟨⟨_, e1, _, rfl⟩, ⟨_, e2, _, rfl⟩, -⟩ := hn
        exact rg_val (v := .bool false) (by simp [execOp, go_sem, e1, e2]) rfl hch (Chg.refl _ _) rfl
      · rintro kc m a w5 hkc hch hm hn
        obtain ⟨⟨_, e1, _, rfl⟩, ⟨_, e2, _, rfl⟩, -⟩ := hn
        exact rg_val (v := .bool false) (by simp [execOp, go_sem, e1, e2]) rfl hch (Chg.refl _ _) rfl
      rintro m w2 hc2
      simp only [AllVals]
      rintro v0 _ p0 v1 _ p1 v2 _ p2 v3 _ p3 v4 _ p4 v5 _ p5 v6 _ p6 v7 _ p7 v8 _ p8 v9 _ p9 v10 _ p10 v11 _ p11 v12 _ p12 v13 _ p13 v14 _ p14 v15 _ p15 v16 _ p16 v17 _ p17 v18 _ p18 v19 _ p19 v20 _ p20 v21 _ p21 v22 _ p22 v23 _ p23 v24 _ p24 v25 _ p25 v26 _ p26 v27 _ p27 v28 _ p28 v29 _ p29 v30 _ p30 v31 _ p31 v32 _ p32 v33 _ p33 v34 _ p34 v35 _ p35 v36 _ p36 v37 _ p37 v38 _ p38 v39 _ p39 v40 _ p40
      obtain rfl := p40
      clear p0 p1 p2 p3 p4 p5 p6 p7 p8 p9 p10 p11 p12 p13 p14 p15 p16 p17 p18 p19 p20 p21 p22 p23 p24 p25 p26 p27 p28 p29 p30 p31 p32 p33 p34 p35 p36 p37 p38 p39
      simp only [Act.put, List.setIfInBounds_toArray, List.set_cons_succ, List.set_cons_zero]
      have HC2 := Lib.hid hc2
      clear hc2
      go_wp2
      go_roundw
      case rel => exact ⟨k + 1, by omega, by go_num, by rw [HB.out, HBEST.out], HCC.out.trans HC2.out, HBX.out.chg HC2.out (fun x => x)⟩
      case measure => simp [intOf]; omega
    · obtain rfl : k = D.length := by omega
      have HCH := Lib.hid hch
      clear hch hbx
      go_wp2
      go_ret
      exact ⟨ret_int (by unfold fresh; rw [if_pos HD.out, HBEST.out]), HCH.out⟩
end Go.Proofs.Ytpiojofmflfkkaa
/- AppendPage of the reference, where what it takes is valid. -/
namespace Go.Proofs.Ytpiojofmflfkkaa
open Go.RowKit
theorem chg3h {F : Nat → Prop} {w W : World} {g : Nat} {a b c : Value} (h : Chg F w W) (hg : F g ∨ w.heap.size ≤ g) :
    Chg F w (((W.setCell ⟨g, 0, none⟩ a).setCell ⟨g, 1, none⟩ b).setCell ⟨g, 2, none⟩ c) :=
  ((h.setCell (p := ⟨g, 0, none⟩) hg _).setCell (p := ⟨g, 1, none⟩) hg _).setCell (p := ⟨g, 2, none⟩) hg _
theorem HeadsOk.get {D : List Bk} {h : Hd} (hh : HeadsOk D h) (n : Nat) : -1 ≤ h.get n ∧ h.get n < (D.length : Int) := by
  obtain ⟨h1, h2, h3, -⟩ := hh.2
  unfold Hd.get
  split
  · exact h1
  · split
    · exact h2
    · exact h3
theorem fresh_range {D : List Bk} {h : Hd} : -1 ≤ fresh D h ∧ fresh D h < (D.length : Int) := by
  unfold fresh
  split
  · exact bestTo_range _ _ _
  · omega
theorem fresh_not {D : List Bk} {h : Hd} (hf : 0 ≤ fresh D h) : ¬ isHead h (fresh D h) := by
  unfold fresh at hf ⊢
  split at hf
  · rename_i hh
    rw [if_pos hh]
    have := bestTo_good _ _ _ hf
    generalize bestTo (freshGood D h) (wearAt D) D.length = b at *
    unfold freshGood at this
    simp only [Bool.and_eq_true, Bool.not_eq_true', decide_eq_false_iff_not] at this
    intro hc
    apply this.2
    rwa [Int.toNat_of_nonneg hf]
  · omega
theorem HdOk.put {L : Nat} {h : Hd} (hh : HdOk L h) (n : Nat) {x : Int} (hx : 0 ≤ x ∧ x < (L : Int)) (hn : ¬ isHead h x) : HdOk L (h.put n x) := by
  obtain ⟨a1, a2, a3⟩ := h
  unfold isHead at hn
  unfold HdOk at hh
  unfold Hd.put HdOk
  simp only at *
  split
  · simp only; omega
  · split
    · simp only; omega
    · simp only; omega
theorem appendPage_head {D : List Bk} {h : Hd} {n : Nat} {p : Pg} (hh : HeadsOk D h) (hn : n < 3) (hp : PgOk p) (hf : p.full = true) {x : Nat} (hx : h.get n = (x : Int)) (hk : x < D.length) (hl : lead D[x].pages < 4) :
    appendPage D h n p = ((program D (x : Int) p).1, h, (program D (x : Int) p).2) := by
  unfold appendPage
  rw [if_pos ⟨hh, ⟨by omega, by omega⟩, hp, hf⟩, hx, Int.toNat_natCast, getD_get _ _ hk, if_pos ⟨by omega, hl⟩]
theorem appendPage_none {D : List Bk} {h : Hd} {n : Nat} {p : Pg} (hh : HeadsOk D h) (hn : n < 3) (hp : PgOk p) (hf : p.full = true) (hx : ¬ (0 ≤ h.get n ∧ lead (D.getD (h.get n).toNat zBk).pages < 4)) (hl : fresh D h < 0) :
    appendPage D h n p = (D, h, -1) := by
  unfold appendPage
  rw [if_pos ⟨hh, ⟨by omega, by omega⟩, hp, hf⟩, if_neg hx, if_pos hl]
theorem appendPage_fresh {D : List Bk} {h : Hd} {n : Nat} {p : Pg} (hh : HeadsOk D h) (hn : n < 3) (hp : PgOk p) (hf : p.full = true) (hx : ¬ (0 ≤ h.get n ∧ lead (D.getD (h.get n).toNat zBk).pages < 4)) {x : Nat} (hl : fresh D h = (x : Int)) :
    appendPage D h n p = ((program D (x : Int) p).1, h.put n x, (program D (x : Int) p).2) := by
  unfold appendPage
  rw [if_pos ⟨hh, ⟨by omega, by omega⟩, hp, hf⟩, if_neg hx, hl, if_neg (by omega)]
theorem HeadsOk.append {D : List Bk} {h : Hd} {n : Nat} {p : Pg} (hh : HeadsOk D h) (hn : n < 3) (hp : PgOk p) (hf : p.full = true) : HeadsOk (appendPage D h n p).1 (appendPage D h n p).2.1 ∧ (appendPage D h n p).1.length = D.length := by
  by_cases hx : 0 ≤ h.get n ∧ lead (D.getD (h.get n).toNat zBk).pages < 4
  · obtain ⟨x, e⟩ := Int.eq_ofNat_of_zero_le hx.1
    have hk : x < D.length := by have := (hh.get n).2; omega
    have hl := hx.2
    rw [e, Int.toNat_natCast, getD_get _ _ hk] at hl
    rw [appendPage_head hh hn hp hf e hk hl]
    obtain ⟨h1, h2⟩ := hh.1.program hk hp hf
    exact ⟨⟨h1, by rw [h2]; exact hh.2⟩, h2⟩
  · by_cases hl : fresh D h < 0
    · rw [appendPage_none hh hn hp hf hx hl]; exact ⟨hh, rfl⟩
    · obtain ⟨x, e⟩ := Int.eq_ofNat_of_zero_le (show 0 ≤ fresh D h by omega)
      have hk : x < D.length := by have := (fresh_range (D := D) (h := h)).2; omega
      rw [appendPage_fresh hh hn hp hf hx e]
      obtain ⟨h1, h2⟩ := hh.1.program hk hp hf
      refine ⟨⟨h1, ?_⟩, h2⟩
      rw [h2]
      exact hh.2.put n ⟨by omega, by omega⟩ (by have := fresh_not (D := D) (h := h) (by omega); rwa [e] at this)
def AppP (w : World) (D : List Bk) (h : Hd) (n : Nat) (p : Pg) (e : Ending) (w' : World) : Prop :=
  ∃ A c T, e = .returned (.tuple #[.slice A D.length c, hval (appendPage D h n p).2.1, .int .i64 (appendPage D h n p).2.2]) ∧ bksOf T = (appendPage D h n p).1 ∧ DevQ w.heap.size w'.heap.size w' A c T ∧ Chg NoB w w'
set_option maxRecDepth 100000 in
set_option maxHeartbeats 8000000 in
theorem sAppendPage_any (F : Nat → Prop) (A : Option Addr) (c : Nat) (D : List Bk) (h : Hd) (n : Nat) (p : Pg) (w : World) (hr : DevR F w A D) (hh : HeadsOk D h) (hn : n < 3) (hp : PgOk p) (hf : p.full = true) :
    Calls Try.prog 81 #[.slice A D.length c, hval h, .int .i64 n, pval p] w (AppP w D h n p) := by
  obtain ⟨fu, fi, pl, va, st⟩ := p
  obtain rfl : fu = true := hf
  have hgr := hh.get n
  have HNX := Lib.hid (fun (x : Nat) (hx : h.get n = (x : Int)) (hk : x < D.length) hl => appendPage_head hh hn hp rfl hx hk hl)
  have HNN := Lib.hid (fun hx hl => appendPage_none hh hn hp rfl hx hl)
  have HNF := Lib.hid (fun (x : Nat) hx (hl : fresh D h = (x : Int)) => appendPage_fresh hh hn hp rfl hx hl)
  have HDH := Lib.hid (show ∀ wq (Aq : Option Addr) (cq : Nat) (G : Nat → Prop), DevR G wq Aq D → Calls Try.prog 134 #[.slice Aq D.length cq, hval h, .int .i64 n] wq fun e w' => e = .returned (.int .i64 (h.get n)) ∧ Chg NoB wq w' from fun wq Aq cq G hq => sHeadOf_any G Aq cq D h n wq hq hh hn)
  have HFR := Lib.hid (show ∀ wq (Aq : Option Addr) (cq : Nat) (G : Nat → Prop), DevR G wq Aq D → Calls Try.prog 136 #[.slice Aq D.length cq, hval h] wq fun e w' => e = .returned (.int .i64 (fresh D h)) ∧ Chg NoB wq w' from fun wq Aq cq G hq => sFreshBlock_any G Aq cq D h wq hq hh.1.small)
  have HST := Lib.hid (show ∀ (x : Int) wq, Calls Try.prog 137 #[hval h, .int .i64 n, .int .i64 x] wq fun e w' => e = .returned (hval (h.put n x)) ∧ Chg NoB wq w' from fun x wq => l6Set_any h n x wq hn)
  have HHV := Lib.hid (show ∀ wq (Aq : Option Addr) (cq : Nat) (G : Nat → Prop), DevR G wq Aq D → Calls Try.prog 75 #[.slice Aq D.length cq, hval h] wq fun e w' => e = .returned (.bool true) ∧ Chg NoB wq w' from fun wq Aq cq G hq => (sHeadsValid_any G Aq cq D h wq hq hh.1.small).mono fun e w' ⟨he, hw⟩ => ⟨by rw [he, decide_eq_true hh], hw⟩)
  obtain ⟨z, hz⟩ : ∃ z, h.get n = z := ⟨_, rfl⟩
  have HZ := Lib.hid hz
  rw [hz] at HDH hgr
  obtain ⟨y, hy⟩ : ∃ y, fresh D h = y := ⟨_, rfl⟩
  have HYR := Lib.hid (fresh_range (D := D) (h := h))
  have HY := Lib.hid hy
  rw [hy] at HFR HYR
  obtain ⟨PR, hPR⟩ : ∃ PR, PR = AppP w D h n ⟨true, fi, pl, va, st⟩ := ⟨_, rfl⟩
  have HPR := Lib.hid hPR
  rw [← hPR]
  obtain ⟨a1, a2, a3⟩ := h
  obtain ⟨q1, q2, q3⟩ := lit2 w 46 80 #[.int .i64 a1, .int .i64 a2, .int .i64 a3] #[.bool true, .int .i64 fi, .int .i64 pl, .int .i64 va, .int .i64 st]
  obtain ⟨w2, hw2⟩ : ∃ w2, (w.alloc (.cells #[.int .i64 a1, .int .i64 a2, .int .i64 a3] 46)).alloc (.cells #[.bool true, .int .i64 fi, .int .i64 pl, .int .i64 va, .int .i64 st] 80) = w2 := ⟨_, rfl⟩
  have hsz2 : w2.heap.size = w.heap.size + 1 + 1 := by rw [← hw2]; simp [World.size_alloc]
  have hca := (Chg.refl NoB w2).alloc (.cells #[.int .i64 0, .int .i64 0, .int .i64 0] 46)
  have q4 := Blk.new w2 46 #[.int .i64 0, .int .i64 0, .int .i64 0]
  rw [hw2] at q1 q2 q3
  obtain ⟨w3, hw3⟩ : ∃ w3, w2.alloc (.cells #[.int .i64 0, .int .i64 0, .int .i64 0] 46) = w3 := ⟨_, rfl⟩
  rw [hw3] at hca q4
  rw [hsz2] at q4
  have HBH := Lib.hid (q1.chg hca (fun x => x))
  have HBP := Lib.hid (q2.chg hca (fun x => x))
  have HBR := Lib.hid q4
  have HC := Lib.hid (q3.trans hca)
  have HR := Lib.hid (hr.lt.new (q3.trans hca))
  have HW2 := Lib.hid hw2
  have HW3 := Lib.hid hw3
  have HD := Lib.hid hh.1
  have HP := Lib.hid hp
  have hnn0 : (0 : Int) ≤ (n : Int) := Int.natCast_nonneg _
  have HNL := Lib.hid hn
  have hl := hh.1.1
  clear q1 q2 q3 q4 hr hca hw2 hw3 hsz2 hp hh hz hy hPR
  go_enter Try.func81, Try.ntmps81
  go_wp2_with fail
  rw [HW2.out, HW3.out]
  clear HW2 HW3
  refine (HHV.out _ A c _ HR.out).mono ?_
  rintro e w4 ⟨rfl, hc4⟩
  replace HBH := Lib.hid (HBH.out.chg hc4 (fun x => x))
  replace HBP := Lib.hid (HBP.out.chg hc4 (fun x => x))
  replace HBR := Lib.hid (HBR.out.chg hc4 (fun x => x))
  replace HC := Lib.hid (HC.out.trans hc4)
  replace HR := Lib.hid (HR.out.new hc4)
  clear hc4
  have hbh := HBH.out
  have x0 : w4.cell? ⟨w.heap.size, 0, none⟩ = some (.int .i64 a1) := (hbh.cell _).trans rfl
  have xf0 := hbh.frozen 0
  have x1 : w4.cell? ⟨w.heap.size, 1, none⟩ = some (.int .i64 a2) := (hbh.cell _).trans rfl
  have xf1 := hbh.frozen 1
  have x2 : w4.cell? ⟨w.heap.size, 2, none⟩ = some (.int .i64 a3) := (hbh.cell _).trans rfl
  have xf2 := hbh.frozen 2
  clear hbh
  have hbp := HBP.out
  have p0 : w4.cell? ⟨(w.heap.size + 1), 0, none⟩ = some (.bool true) := (hbp.cell _).trans rfl
  have p1 : w4.cell? ⟨(w.heap.size + 1), 1, none⟩ = some (.int .i64 fi) := (hbp.cell _).trans rfl
  have p2 : w4.cell? ⟨(w.heap.size + 1), 2, none⟩ = some (.int .i64 pl) := (hbp.cell _).trans rfl
  have p3 : w4.cell? ⟨(w.heap.size + 1), 3, none⟩ = some (.int .i64 va) := (hbp.cell _).trans rfl
  have p4 : w4.cell? ⟨(w.heap.size + 1), 4, none⟩ = some (.int .i64 st) := (hbp.cell _).trans rfl
  clear hbp
  go_wp2_with fail
  refine (l1In_t (n : Int) 0 2 _ ⟨by omega, by have := HNL.out; omega⟩).mono ?_
  rintro e w' ⟨rfl, rfl⟩
  go_wp2_with fail
  refine (sPageValid_t ⟨true, fi, pl, va, st⟩ _ HP.out).mono ?_
  rintro e w5 ⟨rfl, hc5⟩
  clear x0 x1 x2 xf0 xf1 xf2 p0 p1 p2 p3 p4
  replace HBH := Lib.hid (HBH.out.chg hc5 (fun x => x))
  replace HBP := Lib.hid (HBP.out.chg hc5 (fun x => x))
  replace HBR := Lib.hid (HBR.out.chg hc5 (fun x => x))
  replace HC := Lib.hid (HC.out.trans hc5)
  replace HR := Lib.hid (HR.out.new hc5)
  clear hc5
  have hbh := HBH.out
  have x0 : w5.cell? ⟨w.heap.size, 0, none⟩ = some (.int .i64 a1) := (hbh.cell _).trans rfl
  have xf0 := hbh.frozen 0
  have x1 : w5.cell? ⟨w.heap.size, 1, none⟩ = some (.int .i64 a2) := (hbh.cell _).trans rfl
  have xf1 := hbh.frozen 1
  have x2 : w5.cell? ⟨w.heap.size, 2, none⟩ = some (.int .i64 a3) := (hbh.cell _).trans rfl
  have xf2 := hbh.frozen 2
  clear hbh
  have hbp := HBP.out
  have p0 : w5.cell? ⟨(w.heap.size + 1), 0, none⟩ = some (.bool true) := (hbp.cell _).trans rfl
  have p1 : w5.cell? ⟨(w.heap.size + 1), 1, none⟩ = some (.int .i64 fi) := (hbp.cell _).trans rfl
  have p2 : w5.cell? ⟨(w.heap.size + 1), 2, none⟩ = some (.int .i64 pl) := (hbp.cell _).trans rfl
  have p3 : w5.cell? ⟨(w.heap.size + 1), 3, none⟩ = some (.int .i64 va) := (hbp.cell _).trans rfl
  have p4 : w5.cell? ⟨(w.heap.size + 1), 4, none⟩ = some (.int .i64 st) := (hbp.cell _).trans rfl
  clear hbp
  go_wp2_with fail
  refine (HDH.out _ A c _ HR.out).mono ?_
  rintro e w6 ⟨rfl, hc6⟩
  clear x0 x1 x2 xf0 xf1 xf2 p0 p1 p2 p3 p4
  replace HBH := Lib.hid (HBH.out.chg hc6 (fun x => x))
  replace HBP := Lib.hid (HBP.out.chg hc6 (fun x => x))
  replace HBR := Lib.hid (HBR.out.chg hc6 (fun x => x))
  replace HC := Lib.hid (HC.out.trans hc6)
  replace HR := Lib.hid (HR.out.new hc6)
  clear hc6
  have hbh := HBH.out
  have x0 : w6.cell? ⟨w.heap.size, 0, none⟩ = some (.int .i64 a1) := (hbh.cell _).trans rfl
  have xf0 := hbh.frozen 0
  have x1 : w6.cell? ⟨w.heap.size, 1, none⟩ = some (.int .i64 a2) := (hbh.cell _).trans rfl
  have xf1 := hbh.frozen 1
  have x2 : w6.cell? ⟨w.heap.size, 2, none⟩ = some (.int .i64 a3) := (hbh.cell _).trans rfl
  have xf2 := hbh.frozen 2
  clear hbh
  have hbp := HBP.out
  have p0 : w6.cell? ⟨(w.heap.size + 1), 0, none⟩ = some (.bool true) := (hbp.cell _).trans rfl
  have p1 : w6.cell? ⟨(w.heap.size + 1), 1, none⟩ = some (.int .i64 fi) := (hbp.cell _).trans rfl
  have p2 : w6.cell? ⟨(w.heap.size + 1), 2, none⟩ = some (.int .i64 pl) := (hbp.cell _).trans rfl
  have p3 : w6.cell? ⟨(w.heap.size + 1), 3, none⟩ = some (.int .i64 va) := (hbp.cell _).trans rfl
  have p4 : w6.cell? ⟨(w.heap.size + 1), 4, none⟩ = some (.int .i64 st) := (hbp.cell _).trans rfl
  clear hbp
  by_cases hz : z < 0
  case pos =>
    obtain ⟨hg0, hg1⟩ := hgr
    go_wp2_with fail
    refine (HFR.out _ A c _ HR.out).mono ?_
    rintro e w7 ⟨rfl, hc7⟩
    clear x0 x1 x2 xf0 xf1 xf2 p0 p1 p2 p3 p4
    replace HBH := Lib.hid (HBH.out.chg hc7 (fun x => x))
    replace HBP := Lib.hid (HBP.out.chg hc7 (fun x => x))
    replace HBR := Lib.hid (HBR.out.chg hc7 (fun x => x))
    replace HC := Lib.hid (HC.out.trans hc7)
    replace HR := Lib.hid (HR.out.new hc7)
    clear hc7
    have hbh := HBH.out
    have x0 : w7.cell? ⟨w.heap.size, 0, none⟩ = some (.int .i64 a1) := (hbh.cell _).trans rfl
    have xf0 := hbh.frozen 0
    have x1 : w7.cell? ⟨w.heap.size, 1, none⟩ = some (.int .i64 a2) := (hbh.cell _).trans rfl
    have xf1 := hbh.frozen 1
    have x2 : w7.cell? ⟨w.heap.size, 2, none⟩ = some (.int .i64 a3) := (hbh.cell _).trans rfl
    have xf2 := hbh.frozen 2
    clear hbh
    have hbp := HBP.out
    have p0 : w7.cell? ⟨(w.heap.size + 1), 0, none⟩ = some (.bool true) := (hbp.cell _).trans rfl
    have p1 : w7.cell? ⟨(w.heap.size + 1), 1, none⟩ = some (.int .i64 fi) := (hbp.cell _).trans rfl
    have p2 : w7.cell? ⟨(w.heap.size + 1), 2, none⟩ = some (.int .i64 pl) := (hbp.cell _).trans rfl
    have p3 : w7.cell? ⟨(w.heap.size + 1), 3, none⟩ = some (.int .i64 va) := (hbp.cell _).trans rfl
    have p4 : w7.cell? ⟨(w.heap.size + 1), 4, none⟩ = some (.int .i64 st) := (hbp.cell _).trans rfl
    clear hbp
    have HWR := Lib.hid HBR.out.lt
    have hyr := HYR.out
    obtain ⟨hy0, hy1⟩ := hyr
    have HWHY := Lib.hid (show ¬ (0 ≤ Hd.get ⟨a1, a2, a3⟩ n ∧ lead (D.getD (Hd.get ⟨a1, a2, a3⟩ n).toNat zBk).pages < 4) from fun hh => by have := HZ.out; have := hh.1; omega)
    by_cases hy : y < 0
    · have HYN := Lib.hid (show fresh D ⟨a1, a2, a3⟩ < 0 by rw [HY.out]; exact hy)
      have hbr := HBR.out
      have hne1 : w.heap.size ≠ w.heap.size + 1 + 1 := by omega
      have hne2 : w.heap.size + 1 + 1 ≠ w.heap.size := by omega
      clear hbr
      go_wp2_with fail
      go_region_held3 (fun w' => w'.cell? ⟨w.heap.size, 0, none⟩ = some (.int .i64 a1) ∧ w'.cell? ⟨w.heap.size, 1, none⟩ = some (.int .i64 a2) ∧ w'.cell? ⟨w.heap.size, 2, none⟩ = some (.int .i64 a3))
        (first | go_keep | (refine ⟨?_, ?_, ?_⟩ <;> exact ((HBH.out.chg (F := NoB) ((Chg.refl _ w7).drew.trans hcc) (fun x => x)).cell _).trans rfl))
        (first | (go_at_call 79; refine (l5Copy_any _ A c D _ (HR.out.new (Chg.refl NoB w7).drew) HD.out).mono ?_; rintro e' w8 ⟨A8, c8, T8, rfl, hT8, hO8, hcc⟩; have hk := (Chg.refl NoB w7).drew.trans hcc; have hb8 := HBR.out.chg hk (fun x => x); have HK := Lib.hid hk; have HT8 := Lib.hid hT8; have HO8 := Lib.hid hO8; have HB8 := Lib.hid hb8; have r0 : w8.cell? ⟨w.heap.size + 1 + 1, 0, none⟩ = some (.int .i64 0) := (hb8.cell _).trans rfl; have r1 : w8.cell? ⟨w.heap.size + 1 + 1, 1, none⟩ = some (.int .i64 0) := (hb8.cell _).trans rfl; have r2 : w8.cell? ⟨w.heap.size + 1 + 1, 2, none⟩ = some (.int .i64 0) := (hb8.cell _).trans rfl; have rf0 := hb8.frozen 0; have rf1 := hb8.frozen 1; have rf2 := hb8.frozen 2; clear hk hT8 hO8 hb8))
      rename_i hhh
      clear hhh hcc
      go_wp2_with fail
      (try simp only [Exit.inBlock, Exit.then])
      refine bodyPost_ret (v := .tuple #[.slice A8 D.length c8, .agg #[.int .i64 a1, .int .i64 a2, .int .i64 a3], .int .i64 (-1)]) (by simp [results, Try.results81, go_sem, *]) rfl ?_
      rw [HPR.out]
      have hcs := chg3h (F := (· = w.heap.size + 1 + 1)) (g := w.heap.size + 1 + 1) (a := .int .i64 a1) (b := .int .i64 a2) (c := .int .i64 a3) (Chg.refl (· = w.heap.size + 1 + 1) w8) (.inl rfl)
      have hs7 := HC.out.size
      have hlt := HBR.out.lt
      unfold AppP
      rw [HNN.out HWHY.out HYN.out]
      exact ⟨A8, c8, T8, rfl, HT8.out, (HO8.out.chg hcs (fun i h1 h2 => by have h3 : w7.heap.size ≤ i := h1; show ¬ (i = w.heap.size + 1 + 1); omega)).more hs7 (by simp [World.setCell]), (HC.out.trans HK.out).own hcs (by omega)⟩
    obtain ⟨v, rfl⟩ := Int.eq_ofNat_of_zero_le (show 0 ≤ y by omega)
    have hk : v < D.length := by omega
    go_wp2_with fail
    refine (HST.out (v : Int) _).mono ?_
    rintro e w8 ⟨rfl, hc8⟩
    obtain ⟨⟨b1, b2, b3⟩, hbb⟩ : ∃ hb : Hd, Hd.put ⟨a1, a2, a3⟩ n (v : Int) = hb := ⟨_, rfl⟩
    rw [hbb]
    have HBB := Lib.hid hbb
    clear hbb
    clear x0 x1 x2 xf0 xf1 xf2 p0 p1 p2 p3 p4
    replace HBH := Lib.hid (HBH.out.chg hc8 (fun x => x))
    replace HBP := Lib.hid (HBP.out.chg hc8 (fun x => x))
    replace HBR := Lib.hid (HBR.out.chg hc8 (fun x => x))
    replace HC := Lib.hid (HC.out.trans hc8)
    replace HR := Lib.hid (HR.out.new hc8)
    clear hc8
    have hbh := HBH.out
    have x0 : w8.cell? ⟨w.heap.size, 0, none⟩ = some (.int .i64 a1) := (hbh.cell _).trans rfl
    have xf0 := hbh.frozen 0
    have x1 : w8.cell? ⟨w.heap.size, 1, none⟩ = some (.int .i64 a2) := (hbh.cell _).trans rfl
    have xf1 := hbh.frozen 1
    have x2 : w8.cell? ⟨w.heap.size, 2, none⟩ = some (.int .i64 a3) := (hbh.cell _).trans rfl
    have xf2 := hbh.frozen 2
    clear hbh
    have hbp := HBP.out
    have p0 : w8.cell? ⟨(w.heap.size + 1), 0, none⟩ = some (.bool true) := (hbp.cell _).trans rfl
    have p1 : w8.cell? ⟨(w.heap.size + 1), 1, none⟩ = some (.int .i64 fi) := (hbp.cell _).trans rfl
    have p2 : w8.cell? ⟨(w.heap.size + 1), 2, none⟩ = some (.int .i64 pl) := (hbp.cell _).trans rfl
    have p3 : w8.cell? ⟨(w.heap.size + 1), 3, none⟩ = some (.int .i64 va) := (hbp.cell _).trans rfl
    have p4 : w8.cell? ⟨(w.heap.size + 1), 4, none⟩ = some (.int .i64 st) := (hbp.cell _).trans rfl
    clear hbp
    have hcs8 := chg3h (F := (· = w.heap.size)) (g := w.heap.size) (a := .int .i64 b1) (b := .int .i64 b2) (c := .int .i64 b3) (Chg.refl (· = w.heap.size) w8) (.inl rfl)
    have hb8 : Blk (((w8.setCell ⟨w.heap.size, 0, none⟩ (.int .i64 b1)).setCell ⟨w.heap.size, 1, none⟩ (.int .i64 b2)).setCell ⟨w.heap.size, 2, none⟩ (.int .i64 b3)) w.heap.size 46 #[.int .i64 b1, .int .i64 b2, .int .i64 b3] := ((HBH.out.set_ 0 _).set_ 1 _).set_ 2 _
    have HCS8 := Lib.hid hcs8
    have HB8 := Lib.hid hb8
    have HS8 := Lib.hid HC.out.size
    clear hcs8 hb8
    go_wp2_with fail
    obtain ⟨wc, hwc⟩ : ∃ wc, (((w8.setCell ⟨w.heap.size, 0, none⟩ (.int .i64 b1)).setCell ⟨w.heap.size, 1, none⟩ (.int .i64 b2)).setCell ⟨w.heap.size, 2, none⟩ (.int .i64 b3)) = wc := ⟨_, rfl⟩
    have hcs := HCS8.out
    have hb8 := HB8.out
    rw [hwc] at hcs hb8 ⊢
    clear HCS8 HB8 hwc
    clear x0 x1 x2 xf0 xf1 xf2 p0 p1 p2 p3 p4
    replace HBH := Lib.hid hb8
    replace HBP := Lib.hid (HBP.out.chg hcs (by omega))
    replace HBR := Lib.hid (HBR.out.chg hcs (by omega))
    replace HC := Lib.hid (HC.out.own hcs (Nat.le_refl _))
    replace HR := Lib.hid (HR.out.chg hcs (fun i hi he => by have h2 := hi.2; have he' : i = w.heap.size := he; omega))
    have HWR := Lib.hid HBR.out.lt
    clear hb8 hcs
    have hbh := HBH.out
    have x0 : wc.cell? ⟨w.heap.size, 0, none⟩ = some (.int .i64 b1) := (hbh.cell _).trans rfl
    have xf0 := hbh.frozen 0
    have x1 : wc.cell? ⟨w.heap.size, 1, none⟩ = some (.int .i64 b2) := (hbh.cell _).trans rfl
    have xf1 := hbh.frozen 1
    have x2 : wc.cell? ⟨w.heap.size, 2, none⟩ = some (.int .i64 b3) := (hbh.cell _).trans rfl
    have xf2 := hbh.frozen 2
    clear hbh
    have hbp := HBP.out
    have p0 : wc.cell? ⟨(w.heap.size + 1), 0, none⟩ = some (.bool true) := (hbp.cell _).trans rfl
    have p1 : wc.cell? ⟨(w.heap.size + 1), 1, none⟩ = some (.int .i64 fi) := (hbp.cell _).trans rfl
    have p2 : wc.cell? ⟨(w.heap.size + 1), 2, none⟩ = some (.int .i64 pl) := (hbp.cell _).trans rfl
    have p3 : wc.cell? ⟨(w.heap.size + 1), 3, none⟩ = some (.int .i64 va) := (hbp.cell _).trans rfl
    have p4 : wc.cell? ⟨(w.heap.size + 1), 4, none⟩ = some (.int .i64 st) := (hbp.cell _).trans rfl
    clear hbp
    go_wp2_with fail
    refine (sProgram_any _ A c D v ⟨true, fi, pl, va, st⟩ _ HR.out HD.out hk HP.out rfl).mono ?_
    rintro e w9 ⟨A9, c9, T9, rfl, hT9, hO9, hc9⟩
    have HS9 := Lib.hid HC.out.size
    clear x0 x1 x2 xf0 xf1 xf2 p0 p1 p2 p3 p4
    replace HBH := Lib.hid (HBH.out.chg hc9 (fun x => x))
    replace HBP := Lib.hid (HBP.out.chg hc9 (fun x => x))
    replace HBR := Lib.hid (HBR.out.chg hc9 (fun x => x))
    replace HC := Lib.hid (HC.out.trans hc9)
    replace HR := Lib.hid (HR.out.new hc9)
    clear hc9
    have hbh := HBH.out
    have hbr := HBR.out
    have x0 : w9.cell? ⟨w.heap.size, 0, none⟩ = some (.int .i64 b1) := (hbh.cell _).trans rfl
    have x1 : w9.cell? ⟨w.heap.size, 1, none⟩ = some (.int .i64 b2) := (hbh.cell _).trans rfl
    have x2 : w9.cell? ⟨w.heap.size, 2, none⟩ = some (.int .i64 b3) := (hbh.cell _).trans rfl
    have r0 : w9.cell? ⟨(w.heap.size + 1 + 1), 0, none⟩ = some (.int .i64 0) := (hbr.cell _).trans rfl
    have rf0 := hbr.frozen 0
    have r1 : w9.cell? ⟨(w.heap.size + 1 + 1), 1, none⟩ = some (.int .i64 0) := (hbr.cell _).trans rfl
    have rf1 := hbr.frozen 1
    have r2 : w9.cell? ⟨(w.heap.size + 1 + 1), 2, none⟩ = some (.int .i64 0) := (hbr.cell _).trans rfl
    have rf2 := hbr.frozen 2
    have hne1 : w.heap.size ≠ w.heap.size + 1 + 1 := by omega
    have hne2 : w.heap.size + 1 + 1 ≠ w.heap.size := by omega
    have HT9 := Lib.hid hT9
    have HO9 := Lib.hid hO9
    obtain ⟨zz, hzz⟩ : ∃ zz, (program D (v : Int) ⟨true, fi, pl, va, st⟩).2 = zz := ⟨_, rfl⟩
    have HZZ := Lib.hid hzz
    rw [hzz]
    clear hbh hbr hT9 hO9 hzz
    go_wp2_with fail
    go_region
    go_wp2_with fail
    (try simp only [Exit.inBlock, Exit.then])
    refine bodyPost_ret (v := .tuple #[.slice A9 D.length c9, .agg #[.int .i64 b1, .int .i64 b2, .int .i64 b3], .int .i64 zz]) (by simp [results, Try.results81, go_sem, *]) rfl ?_
    rw [HPR.out]
    have hcs := chg3h (F := (· = w.heap.size + 1 + 1)) (g := w.heap.size + 1 + 1) (a := .int .i64 b1) (b := .int .i64 b2) (c := .int .i64 b3) (Chg.refl (· = w.heap.size + 1 + 1) w9) (.inl rfl)
    have hs9 := HS9.out
    have hlt := HBR.out.lt
    unfold AppP
    rw [HNF.out v HWHY.out HY.out, HBB.out]
    exact ⟨A9, c9, T9, by rw [HZZ.out], HT9.out, ((HO9.out.chg hcs (fun i h1 h2 => by have := HWR.out; omega)).more hs9 (by simp [World.setCell])).new (Chg.refl NoB _).drew, (HC.out.own hcs (by omega)).drew⟩
  obtain ⟨u, rfl⟩ := Int.eq_ofNat_of_zero_le (show 0 ≤ z by omega)
  have hk : u < D.length := by have := hgr.2; omega
  have hu0 : (0 : Int) ≤ (u : Int) := Int.natCast_nonneg _
  have hu1 : (u : Int) < (D.length : Int) := by omega
  have HBK := Lib.hid (HD.out.2 u hk)
  obtain ⟨bb, oo, A', c', rfl, hfb, c0, c1, hrb, -⟩ := HR.out u hk
  rw [HBK.out.2.1] at c1
  have HBN := Lib.hid (show Calls Try.prog 135 #[.agg #[.int .i64 D[u].wear, .slice A' 4 c']] w6 fun e w' => e = .returned (.int .i64 (next D[u])) ∧ Chg NoB w6 w' by
    have := sBlockNext_any _ A' c' D[u] w6 hrb (by rw [HBK.out.2.1]; omega)
    rwa [HBK.out.2.1] at this)
  clear hrb hgr
  go_wp2_with fail
  refine HBN.out.mono ?_
  rintro e wn ⟨rfl, hcn⟩
  clear c0 c1
  clear x0 x1 x2 xf0 xf1 xf2 p0 p1 p2 p3 p4
  replace HBH := Lib.hid (HBH.out.chg hcn (fun x => x))
  replace HBP := Lib.hid (HBP.out.chg hcn (fun x => x))
  replace HBR := Lib.hid (HBR.out.chg hcn (fun x => x))
  replace HC := Lib.hid (HC.out.trans hcn)
  replace HR := Lib.hid (HR.out.new hcn)
  clear hcn
  have hbh := HBH.out
  have x0 : wn.cell? ⟨w.heap.size, 0, none⟩ = some (.int .i64 a1) := (hbh.cell _).trans rfl
  have xf0 := hbh.frozen 0
  have x1 : wn.cell? ⟨w.heap.size, 1, none⟩ = some (.int .i64 a2) := (hbh.cell _).trans rfl
  have xf1 := hbh.frozen 1
  have x2 : wn.cell? ⟨w.heap.size, 2, none⟩ = some (.int .i64 a3) := (hbh.cell _).trans rfl
  have xf2 := hbh.frozen 2
  clear hbh
  have hbp := HBP.out
  have p0 : wn.cell? ⟨(w.heap.size + 1), 0, none⟩ = some (.bool true) := (hbp.cell _).trans rfl
  have p1 : wn.cell? ⟨(w.heap.size + 1), 1, none⟩ = some (.int .i64 fi) := (hbp.cell _).trans rfl
  have p2 : wn.cell? ⟨(w.heap.size + 1), 2, none⟩ = some (.int .i64 pl) := (hbp.cell _).trans rfl
  have p3 : wn.cell? ⟨(w.heap.size + 1), 3, none⟩ = some (.int .i64 va) := (hbp.cell _).trans rfl
  have p4 : wn.cell? ⟨(w.heap.size + 1), 4, none⟩ = some (.int .i64 st) := (hbp.cell _).trans rfl
  clear hbp
  by_cases hl4 : lead D[u].pages < 4
  case neg =>
    have HL4 := Lib.hid hl4
    rw [next_full HBK.out hl4]
    clear hl4
    go_wp2_with fail
    refine (HFR.out _ (some ⟨bb, oo, none⟩) c _ HR.out).mono ?_
    rintro e w7 ⟨rfl, hc7⟩
    clear x0 x1 x2 xf0 xf1 xf2 p0 p1 p2 p3 p4
    replace HBH := Lib.hid (HBH.out.chg hc7 (fun x => x))
    replace HBP := Lib.hid (HBP.out.chg hc7 (fun x => x))
    replace HBR := Lib.hid (HBR.out.chg hc7 (fun x => x))
    replace HC := Lib.hid (HC.out.trans hc7)
    replace HR := Lib.hid (HR.out.new hc7)
    clear hc7
    have hbh := HBH.out
    have x0 : w7.cell? ⟨w.heap.size, 0, none⟩ = some (.int .i64 a1) := (hbh.cell _).trans rfl
    have xf0 := hbh.frozen 0
    have x1 : w7.cell? ⟨w.heap.size, 1, none⟩ = some (.int .i64 a2) := (hbh.cell _).trans rfl
    have xf1 := hbh.frozen 1
    have x2 : w7.cell? ⟨w.heap.size, 2, none⟩ = some (.int .i64 a3) := (hbh.cell _).trans rfl
    have xf2 := hbh.frozen 2
    clear hbh
    have hbp := HBP.out
    have p0 : w7.cell? ⟨(w.heap.size + 1), 0, none⟩ = some (.bool true) := (hbp.cell _).trans rfl
    have p1 : w7.cell? ⟨(w.heap.size + 1), 1, none⟩ = some (.int .i64 fi) := (hbp.cell _).trans rfl
    have p2 : w7.cell? ⟨(w.heap.size + 1), 2, none⟩ = some (.int .i64 pl) := (hbp.cell _).trans rfl
    have p3 : w7.cell? ⟨(w.heap.size + 1), 3, none⟩ = some (.int .i64 va) := (hbp.cell _).trans rfl
    have p4 : w7.cell? ⟨(w.heap.size + 1), 4, none⟩ = some (.int .i64 st) := (hbp.cell _).trans rfl
    clear hbp
    have HWR := Lib.hid HBR.out.lt
    have hyr := HYR.out
    obtain ⟨hy0, hy1⟩ := hyr
    have HWHY := Lib.hid (show ¬ (0 ≤ Hd.get ⟨a1, a2, a3⟩ n ∧ lead (D.getD (Hd.get ⟨a1, a2, a3⟩ n).toNat zBk).pages < 4) from fun hh => by have h2 := hh.2; rw [HZ.out, Int.toNat_natCast, getD_get _ _ hk] at h2; exact HL4.out h2)
    by_cases hy : y < 0
    · have HYN := Lib.hid (show fresh D ⟨a1, a2, a3⟩ < 0 by rw [HY.out]; exact hy)
      have hbr := HBR.out
      have hne1 : w.heap.size ≠ w.heap.size + 1 + 1 := by omega
      have hne2 : w.heap.size + 1 + 1 ≠ w.heap.size := by omega
      clear hbr
      go_wp2_with fail
      go_region_held3 (fun w' => w'.cell? ⟨w.heap.size, 0, none⟩ = some (.int .i64 a1) ∧ w'.cell? ⟨w.heap.size, 1, none⟩ = some (.int .i64 a2) ∧ w'.cell? ⟨w.heap.size, 2, none⟩ = some (.int .i64 a3))
        (first | go_keep | (refine ⟨?_, ?_, ?_⟩ <;> exact ((HBH.out.chg (F := NoB) ((Chg.refl _ w7).drew.trans hcc) (fun x => x)).cell _).trans rfl))
        (first | (go_at_call 79; refine (l5Copy_any _ (some ⟨bb, oo, none⟩) c D _ (HR.out.new (Chg.refl NoB w7).drew) HD.out).mono ?_; rintro e' w8 ⟨A8, c8, T8, rfl, hT8, hO8, hcc⟩; have hk := (Chg.refl NoB w7).drew.trans hcc; have hb8 := HBR.out.chg hk (fun x => x); have HK := Lib.hid hk; have HT8 := Lib.hid hT8; have HO8 := Lib.hid hO8; have HB8 := Lib.hid hb8; have r0 : w8.cell? ⟨w.heap.size + 1 + 1, 0, none⟩ = some (.int .i64 0) := (hb8.cell _).trans rfl; have r1 : w8.cell? ⟨w.heap.size + 1 + 1, 1, none⟩ = some (.int .i64 0) := (hb8.cell _).trans rfl; have r2 : w8.cell? ⟨w.heap.size + 1 + 1, 2, none⟩ = some (.int .i64 0) := (hb8.cell _).trans rfl; have rf0 := hb8.frozen 0; have rf1 := hb8.frozen 1; have rf2 := hb8.frozen 2; clear hk hT8 hO8 hb8))
      rename_i hhh
      clear hhh hcc
      go_wp2_with fail
      (try simp only [Exit.inBlock, Exit.then])
      refine bodyPost_ret (v := .tuple #[.slice A8 D.length c8, .agg #[.int .i64 a1, .int .i64 a2, .int .i64 a3], .int .i64 (-1)]) (by simp [results, Try.results81, go_sem, *]) rfl ?_
      rw [HPR.out]
      have hcs := chg3h (F := (· = w.heap.size + 1 + 1)) (g := w.heap.size + 1 + 1) (a := .int .i64 a1) (b := .int .i64 a2) (c := .int .i64 a3) (Chg.refl (· = w.heap.size + 1 + 1) w8) (.inl rfl)
      have hs7 := HC.out.size
      have hlt := HBR.out.lt
      unfold AppP
      rw [HNN.out HWHY.out HYN.out]
      exact ⟨A8, c8, T8, rfl, HT8.out, (HO8.out.chg hcs (fun i h1 h2 => by have h3 : w7.heap.size ≤ i := h1; show ¬ (i = w.heap.size + 1 + 1); omega)).more hs7 (by simp [World.setCell]), (HC.out.trans HK.out).own hcs (by omega)⟩
    obtain ⟨v, rfl⟩ := Int.eq_ofNat_of_zero_le (show 0 ≤ y by omega)
    have hk : v < D.length := by omega
    go_wp2_with fail
    refine (HST.out (v : Int) _).mono ?_
    rintro e w8 ⟨rfl, hc8⟩
    obtain ⟨⟨b1, b2, b3⟩, hbb⟩ : ∃ hb : Hd, Hd.put ⟨a1, a2, a3⟩ n (v : Int) = hb := ⟨_, rfl⟩
    rw [hbb]
    have HBB := Lib.hid hbb
    clear hbb
    clear x0 x1 x2 xf0 xf1 xf2 p0 p1 p2 p3 p4
    replace HBH := Lib.hid (HBH.out.chg hc8 (fun x => x))
    replace HBP := Lib.hid (HBP.out.chg hc8 (fun x => x))
    replace HBR := Lib.hid (HBR.out.chg hc8 (fun x => x))
    replace HC := Lib.hid (HC.out.trans hc8)
    replace HR := Lib.hid (HR.out.new hc8)
    clear hc8
    have hbh := HBH.out
    have x0 : w8.cell? ⟨w.heap.size, 0, none⟩ = some (.int .i64 a1) := (hbh.cell _).trans rfl
    have xf0 := hbh.frozen 0
    have x1 : w8.cell? ⟨w.heap.size, 1, none⟩ = some (.int .i64 a2) := (hbh.cell _).trans rfl
    have xf1 := hbh.frozen 1
    have x2 : w8.cell? ⟨w.heap.size, 2, none⟩ = some (.int .i64 a3) := (hbh.cell _).trans rfl
    have xf2 := hbh.frozen 2
    clear hbh
    have hbp := HBP.out
    have p0 : w8.cell? ⟨(w.heap.size + 1), 0, none⟩ = some (.bool true) := (hbp.cell _).trans rfl
    have p1 : w8.cell? ⟨(w.heap.size + 1), 1, none⟩ = some (.int .i64 fi) := (hbp.cell _).trans rfl
    have p2 : w8.cell? ⟨(w.heap.size + 1), 2, none⟩ = some (.int .i64 pl) := (hbp.cell _).trans rfl
    have p3 : w8.cell? ⟨(w.heap.size + 1), 3, none⟩ = some (.int .i64 va) := (hbp.cell _).trans rfl
    have p4 : w8.cell? ⟨(w.heap.size + 1), 4, none⟩ = some (.int .i64 st) := (hbp.cell _).trans rfl
    clear hbp
    have hcs8 := chg3h (F := (· = w.heap.size)) (g := w.heap.size) (a := .int .i64 b1) (b := .int .i64 b2) (c := .int .i64 b3) (Chg.refl (· = w.heap.size) w8) (.inl rfl)
    have hb8 : Blk (((w8.setCell ⟨w.heap.size, 0, none⟩ (.int .i64 b1)).setCell ⟨w.heap.size, 1, none⟩ (.int .i64 b2)).setCell ⟨w.heap.size, 2, none⟩ (.int .i64 b3)) w.heap.size 46 #[.int .i64 b1, .int .i64 b2, .int .i64 b3] := ((HBH.out.set_ 0 _).set_ 1 _).set_ 2 _
    have HCS8 := Lib.hid hcs8
    have HB8 := Lib.hid hb8
    have HS8 := Lib.hid HC.out.size
    clear hcs8 hb8
    go_wp2_with fail
    obtain ⟨wc, hwc⟩ : ∃ wc, (((w8.setCell ⟨w.heap.size, 0, none⟩ (.int .i64 b1)).setCell ⟨w.heap.size, 1, none⟩ (.int .i64 b2)).setCell ⟨w.heap.size, 2, none⟩ (.int .i64 b3)) = wc := ⟨_, rfl⟩
    have hcs := HCS8.out
    have hb8 := HB8.out
    rw [hwc] at hcs hb8 ⊢
    clear HCS8 HB8 hwc
    clear x0 x1 x2 xf0 xf1 xf2 p0 p1 p2 p3 p4
    replace HBH := Lib.hid hb8
    replace HBP := Lib.hid (HBP.out.chg hcs (by omega))
    replace HBR := Lib.hid (HBR.out.chg hcs (by omega))
    replace HC := Lib.hid (HC.out.own hcs (Nat.le_refl _))
    replace HR := Lib.hid (HR.out.chg hcs (fun i hi he => by have h2 := hi.2; have he' : i = w.heap.size := he; omega))
    have HWR := Lib.hid HBR.out.lt
    clear hb8 hcs
    have hbh := HBH.out
    have x0 : wc.cell? ⟨w.heap.size, 0, none⟩ = some (.int .i64 b1) := (hbh.cell _).trans rfl
    have xf0 := hbh.frozen 0
    have x1 : wc.cell? ⟨w.heap.size, 1, none⟩ = some (.int .i64 b2) := (hbh.cell _).trans rfl
    have xf1 := hbh.frozen 1
    have x2 : wc.cell? ⟨w.heap.size, 2, none⟩ = some (.int .i64 b3) := (hbh.cell _).trans rfl
    have xf2 := hbh.frozen 2
    clear hbh
    have hbp := HBP.out
    have p0 : wc.cell? ⟨(w.heap.size + 1), 0, none⟩ = some (.bool true) := (hbp.cell _).trans rfl
    have p1 : wc.cell? ⟨(w.heap.size + 1), 1, none⟩ = some (.int .i64 fi) := (hbp.cell _).trans rfl
    have p2 : wc.cell? ⟨(w.heap.size + 1), 2, none⟩ = some (.int .i64 pl) := (hbp.cell _).trans rfl
    have p3 : wc.cell? ⟨(w.heap.size + 1), 3, none⟩ = some (.int .i64 va) := (hbp.cell _).trans rfl
    have p4 : wc.cell? ⟨(w.heap.size + 1), 4, none⟩ = some (.int .i64 st) := (hbp.cell _).trans rfl
    clear hbp
    go_wp2_with fail
    refine (sProgram_any _ (some ⟨bb, oo, none⟩) c D v ⟨true, fi, pl, va, st⟩ _ HR.out HD.out hk HP.out rfl).mono ?_
    rintro e w9 ⟨A9, c9, T9, rfl, hT9, hO9, hc9⟩
    have HS9 := Lib.hid HC.out.size
    clear x0 x1 x2 xf0 xf1 xf2 p0 p1 p2 p3 p4
    replace HBH := Lib.hid (HBH.out.chg hc9 (fun x => x))
    replace HBP := Lib.hid (HBP.out.chg hc9 (fun x => x))
    replace HBR := Lib.hid (HBR.out.chg hc9 (fun x => x))
    replace HC := Lib.hid (HC.out.trans hc9)
    replace HR := Lib.hid (HR.out.new hc9)
    clear hc9
    have hbh := HBH.out
    have hbr := HBR.out
    have x0 : w9.cell? ⟨w.heap.size, 0, none⟩ = some (.int .i64 b1) := (hbh.cell _).trans rfl
    have x1 : w9.cell? ⟨w.heap.size, 1, none⟩ = some (.int .i64 b2) := (hbh.cell _).trans rfl
    have x2 : w9.cell? ⟨w.heap.size, 2, none⟩ = some (.int .i64 b3) := (hbh.cell _).trans rfl
    have r0 : w9.cell? ⟨(w.heap.size + 1 + 1), 0, none⟩ = some (.int .i64 0) := (hbr.cell _).trans rfl
    have rf0 := hbr.frozen 0
    have r1 : w9.cell? ⟨(w.heap.size + 1 + 1), 1, none⟩ = some (.int .i64 0) := (hbr.cell _).trans rfl
    have rf1 := hbr.frozen 1
    have r2 : w9.cell? ⟨(w.heap.size + 1 + 1), 2, none⟩ = some (.int .i64 0) := (hbr.cell _).trans rfl
    have rf2 := hbr.frozen 2
    have hne1 : w.heap.size ≠ w.heap.size + 1 + 1 := by omega
    have hne2 : w.heap.size + 1 + 1 ≠ w.heap.size := by omega
    have HT9 := Lib.hid hT9
    have HO9 := Lib.hid hO9
    obtain ⟨zz, hzz⟩ : ∃ zz, (program D (v : Int) ⟨true, fi, pl, va, st⟩).2 = zz := ⟨_, rfl⟩
    have HZZ := Lib.hid hzz
    rw [hzz]
    clear hbh hbr hT9 hO9 hzz
    go_wp2_with fail
    go_region
    go_wp2_with fail
    (try simp only [Exit.inBlock, Exit.then])
    refine bodyPost_ret (v := .tuple #[.slice A9 D.length c9, .agg #[.int .i64 b1, .int .i64 b2, .int .i64 b3], .int .i64 zz]) (by simp [results, Try.results81, go_sem, *]) rfl ?_
    rw [HPR.out]
    have hcs := chg3h (F := (· = w.heap.size + 1 + 1)) (g := w.heap.size + 1 + 1) (a := .int .i64 b1) (b := .int .i64 b2) (c := .int .i64 b3) (Chg.refl (· = w.heap.size + 1 + 1) w9) (.inl rfl)
    have hs9 := HS9.out
    have hlt := HBR.out.lt
    unfold AppP
    rw [HNF.out v HWHY.out HY.out, HBB.out]
    exact ⟨A9, c9, T9, by rw [HZZ.out], HT9.out, ((HO9.out.chg hcs (fun i h1 h2 => by have := HWR.out; omega)).more hs9 (by simp [World.setCell])).new (Chg.refl NoB _).drew, (HC.out.own hcs (by omega)).drew⟩
  have HL4 := Lib.hid hl4
  rw [next_free HBK.out hl4]
  have hln : ¬ ((lead D[u].pages : Int) < 0) := by omega
  have hln0 : (0 : Int) ≤ (lead D[u].pages : Int) := Int.natCast_nonneg _
  have HWR := Lib.hid HBR.out.lt
  clear hl4
  go_wp2_with fail
  refine (sProgram_any _ (some ⟨bb, oo, none⟩) c D u ⟨true, fi, pl, va, st⟩ _ HR.out HD.out hk HP.out rfl).mono ?_
  rintro e w9 ⟨A9, c9, T9, rfl, hT9, hO9, hc9⟩
  have HS9 := Lib.hid HC.out.size
  clear x0 x1 x2 xf0 xf1 xf2 p0 p1 p2 p3 p4
  replace HBH := Lib.hid (HBH.out.chg hc9 (fun x => x))
  replace HBP := Lib.hid (HBP.out.chg hc9 (fun x => x))
  replace HBR := Lib.hid (HBR.out.chg hc9 (fun x => x))
  replace HC := Lib.hid (HC.out.trans hc9)
  replace HR := Lib.hid (HR.out.new hc9)
  clear hc9
  have hbh := HBH.out
  have hbr := HBR.out
  have x0 : w9.cell? ⟨w.heap.size, 0, none⟩ = some (.int .i64 a1) := (hbh.cell _).trans rfl
  have x1 : w9.cell? ⟨w.heap.size, 1, none⟩ = some (.int .i64 a2) := (hbh.cell _).trans rfl
  have x2 : w9.cell? ⟨w.heap.size, 2, none⟩ = some (.int .i64 a3) := (hbh.cell _).trans rfl
  have r0 : w9.cell? ⟨(w.heap.size + 1 + 1), 0, none⟩ = some (.int .i64 0) := (hbr.cell _).trans rfl
  have rf0 := hbr.frozen 0
  have r1 : w9.cell? ⟨(w.heap.size + 1 + 1), 1, none⟩ = some (.int .i64 0) := (hbr.cell _).trans rfl
  have rf1 := hbr.frozen 1
  have r2 : w9.cell? ⟨(w.heap.size + 1 + 1), 2, none⟩ = some (.int .i64 0) := (hbr.cell _).trans rfl
  have rf2 := hbr.frozen 2
  have hne1 : w.heap.size ≠ w.heap.size + 1 + 1 := by omega
  have hne2 : w.heap.size + 1 + 1 ≠ w.heap.size := by omega
  have HT9 := Lib.hid hT9
  have HO9 := Lib.hid hO9
  obtain ⟨zz, hzz⟩ : ∃ zz, (program D (u : Int) ⟨true, fi, pl, va, st⟩).2 = zz := ⟨_, rfl⟩
  have HZZ := Lib.hid hzz
  rw [hzz]
  clear hbh hbr hT9 hO9 hzz
  go_wp2_with fail
  go_region
  go_wp2_with fail
  (try simp only [Exit.inBlock, Exit.then])
  refine bodyPost_ret (v := .tuple #[.slice A9 D.length c9, .agg #[.int .i64 a1, .int .i64 a2, .int .i64 a3], .int .i64 zz]) (by simp [results, Try.results81, go_sem, *]) rfl ?_
  rw [HPR.out]
  have hcs := chg3h (F := (· = w.heap.size + 1 + 1)) (g := w.heap.size + 1 + 1) (a := .int .i64 a1) (b := .int .i64 a2) (c := .int .i64 a3) (Chg.refl (· = w.heap.size + 1 + 1) w9) (.inl rfl)
  have hs9 := HS9.out
  have hlt := HBR.out.lt
  unfold AppP
  rw [HNX.out u HZ.out hk HL4.out]
  exact ⟨A9, c9, T9, by rw [HZZ.out], HT9.out, ((HO9.out.chg hcs (fun i h1 h2 => by have := HWR.out; omega)).more hs9 (by simp [World.setCell])).new (Chg.refl NoB _).drew, (HC.out.own hcs (by omega)).drew⟩
end Go.Proofs.Ytpiojofmflfkkaa
/- One page written into a block: which page each number has then. -/
namespace Go.Proofs.Ytpiojofmflfkkaa
/-- One page written into block k: which page each number has then. -/
theorem program_lead {D : List Bk} {k : Nat} {p : Pg} (h : DvOk D) (hk : k < D.length) (hp : PgOk p) (hf : p.full = true) (hl : lead D[k].pages < 4) :
    program D (k : Int) p = (D.set k ⟨D[k].wear, D[k].pages.set (lead D[k].pages) p⟩, 4 * (k : Int) + (lead D[k].pages : Int)) := by
  rw [program_yes h hk hp hf, writeBlock_free (h.2 k hk) hp hf hl]
  exact if_pos (Int.natCast_nonneg _)
theorem pgAt_of {D : List Bk} {x : Nat} (h : x / 4 < D.length) (h2 : x % 4 < D[x / 4].pages.length) : pgAt D x = D[x / 4].pages[x % 4] := by
  unfold pgAt
  rw [getD_get _ _ h, getD_get _ _ h2]
theorem pgAt_write {D : List Bk} {k : Nat} {p : Pg} (h : DvOk D) (hk : k < D.length) (hl : lead D[k].pages < 4) (x : Nat) (hx : x < 4 * D.length) :
    pgAt (D.set k ⟨D[k].wear, D[k].pages.set (lead D[k].pages) p⟩) x = if x = 4 * k + lead D[k].pages then p else pgAt D x := by
  have hd : x / 4 < D.length := by omega
  have h4 := (h.2 (x / 4) hd).2.1
  have hk4 := (h.2 k hk).2.1
  rw [pgAt_of hd (by omega)]
  by_cases hkx : k = x / 4
  · subst hkx
    rw [pgAt_of (by rw [List.length_set]; exact hd) (by simp; omega)]
    simp only [List.getElem_set_self, List.getElem_set]
    by_cases he : lead D[x / 4].pages = x % 4
    · rw [if_pos he, if_pos (by omega)]
    · rw [if_neg he, if_neg (by omega)]
  · rw [pgAt_of (by rw [List.length_set]; exact hd) (by rw [List.getElem_set_ne hkx]; omega)]
    rw [if_neg (by omega)]
    congr 1
    rw [List.getElem_set_ne hkx]
theorem pgAt_lead {D : List Bk} {k : Nat} (h : DvOk D) (hk : k < D.length) (hl : lead D[k].pages < 4) : (pgAt D (4 * k + lead D[k].pages)).full = false := by
  have h4 := (h.2 k hk).2.1
  have e1 : (4 * k + lead D[k].pages) / 4 = k := by omega
  have e2 : (4 * k + lead D[k].pages) % 4 = lead D[k].pages := by omega
  unfold pgAt
  rw [e1, e2, getD_get _ _ hk, getD_get _ _ (by omega)]
  exact lead_free _ (by omega)
end Go.Proofs.Ytpiojofmflfkkaa
/- EraseAt of the program and of the reference. -/
namespace Go.Proofs.Ytpiojofmflfkkaa
open Go.RowKit
def EraseAtP (w : World) (D : List Bk) (n : Int) (e : Ending) (w' : World) : Prop :=
  ∃ A c T, e = .returned (.tuple #[.slice A (eraseAt D n).1.length c, .bool (eraseAt D n).2]) ∧ bksOf T = (eraseAt D n).1 ∧ DevQ w.heap.size w'.heap.size w' A c T ∧ Chg NoB w w'
theorem eraseAt_no {D : List Bk} {n : Int} (h : ¬ (DvOk D ∧ (0 ≤ n ∧ n < (D.length : Int)))) : eraseAt D n = ([], false) := if_neg h
theorem eraseAt_yes {D : List Bk} {k : Nat} (h : DvOk D) (hk : k < D.length) : eraseAt D (k : Int) = (D.set k (eraseBlock D[k]).1, (eraseBlock D[k]).2) := by
  unfold eraseAt
  rw [if_pos ⟨h, by omega, by omega⟩, Int.toNat_natCast, List.getD_eq_getElem?_getD, List.getElem?_eq_getElem hk, Option.getD_some]
theorem EraseAtP.no {w w' : World} {D : List Bk} {n : Int} {A : Option Addr} {c : Nat} (h : ¬ (DvOk D ∧ (0 ≤ n ∧ n < (D.length : Int)))) (hc : Chg NoB w w') : EraseAtP w D n (.returned (.tuple #[.slice A 0 c, .bool false])) w' := by
  unfold EraseAtP
  rw [eraseAt_no h]
  exact ⟨A, c, [], rfl, rfl, DevQ.nil _ _ _ _ _, hc⟩
set_option maxRecDepth 100000 in
set_option maxHeartbeats 2000000 in
theorem iEraseAt_any (F : Nat → Prop) (A : Option Addr) (c : Nat) (D : List Bk) (n : Int) (w : World) (h : DevR F w A D) (hs : Small D) :
    Calls Try.prog 91 #[.slice A D.length c, .int .i64 n] w (EraseAtP w D n) := by
  have HR := Lib.hid h.lt
  have HNO : ∀ wq (Aq : Option Addr) (cq : Nat), ¬ (DvOk D ∧ (0 ≤ n ∧ n < (D.length : Int))) → Chg NoB w wq → Hid (EraseAtP w D n (.returned (.tuple #[.slice Aq 0 cq, .bool false])) wq) := fun wq Aq cq h1 h2 => Lib.hid (EraseAtP.no h1 h2)
  by_cases hd : DvOk D
  case neg =>
    have HD := Lib.hid hd
    have HS := Lib.hid hs
    clear hd hs h
    go_enter Try.func91, Try.ntmps91
    go_wp2_with fail
    refine (iDeviceValid_f _ A c D _ HR.out HD.out).mono ?_
    rintro e w1 ⟨rfl, hc1⟩
    have HC := Lib.hid hc1
    clear hc1
    go_wp2
    refine bodyPost_ret (v := .tuple #[.slice none 0 0, .bool false]) (by simp [results, Try.results91, go_sem, *]) rfl ?_
    exact (HNO _ _ _ (fun hh => HD.out hh.1) HC.out).out
  have hl := hd.1
  have HD := Lib.hid hd
  clear hd h hs
  by_cases hn : 0 ≤ n ∧ n < (D.length : Int)
  case neg =>
    have HN := Lib.hid hn
    by_cases hn0 : n < 0
    all_goals
      (try (have hn1 : (D.length : Int) ≤ n := by omega))
      clear hn
      go_enter Try.func91, Try.ntmps91
      go_wp2_with fail
      refine (iDeviceValid_t _ A c D _ HR.out HD.out).mono ?_
      rintro e w1 ⟨rfl, hc1⟩
      have HC := Lib.hid hc1
      clear hc1
      go_wp2
      refine bodyPost_ret (v := .tuple #[.slice none 0 0, .bool false]) (by simp [results, Try.results91, go_sem, *]) rfl ?_
      exact (HNO _ _ _ (fun hh => HN.out hh.2) HC.out).out
  obtain ⟨k, rfl⟩ := Int.eq_ofNat_of_zero_le hn.1
  have hk : k < D.length := by omega
  have hk0 : (0 : Int) ≤ (k : Int) := Int.natCast_nonneg _
  have hk1 : (k : Int) < (D.length : Int) := by omega
  have hk2 : ¬ ((k : Int) < 0) := by omega
  have hk3 : ¬ ((D.length : Int) ≤ (k : Int)) := by omega
  have h1 : (1 : Int) ≤ (D.length : Int) := by omega
  have h2 : (D.length : Int) ≤ 12 := by omega
  have HY := Lib.hid (eraseAt_yes HD.out hk)
  clear HNO
  go_enter Try.func91, Try.ntmps91
  go_wp2_with fail
  refine (iDeviceValid_t _ A c D _ HR.out HD.out).mono ?_
  rintro e w1 ⟨rfl, hc1⟩
  have HC1 := Lib.hid hc1
  have HR1 := Lib.hid (HR.out.new hc1)
  clear hc1
  go_wp2_with fail
  refine (cloneDevice_any _ A c D _ HR1.out HD.out).mono ?_
  rintro e w2 ⟨A2, c2, T, rfl, hT, hO2, hc2⟩
  have hTl : T.length = D.length := by rw [← hT, bksOf_length]
  obtain ⟨g, rest, rfl, hgB, hgE, hbg⟩ := hO2.blk (by omega)
  have HT := Lib.hid hT
  have HTL := Lib.hid hTl
  have HO2 := Lib.hid hO2
  have HBG := Lib.hid hbg
  have HGB := Lib.hid (And.intro hgB hgE)
  have HC2 := Lib.hid (HC1.out.trans hc2)
  have HS1 := Lib.hid HC1.out.size
  obtain ⟨bb, o, A', c', rfl, hf, c0, c1, hr, hcc⟩ := (HR1.out.new hc2) k hk
  have h4 := (HD.out.2 k hk).2.1
  have HBK := Lib.hid (HD.out.2 k hk)
  rw [h4] at c1
  have HRD := Lib.hid hr
  clear hO2 hbg hgB hgE hT hTl hc2 hr h4
  go_wp2_with fail
  refine (iEraseBlock_any _ A' c' D[k] _ HRD.out HBK.out).mono ?_
  rintro e w3 ⟨g3, c3, rest3, rfl, h43, hok3, hc3⟩
  have hca := (Chg.refl NoB w3).alloc (.cells #[.int .i64 (eraseBlock D[k]).1.wear, .slice (some ⟨g3, 0, none⟩) 4 c3] 67)
  have hbg4 := HBG.out.chg (hc3.trans hca) (fun x => x)
  obtain ⟨x0, x1⟩ := DevO.room hbg4 (k := k) (by rw [HTL.out]; exact hk)
  have f0 := hbg4.frozen (k * 2)
  have f1 := hbg4.frozen (k * 2 + 1)
  have HBG4 := Lib.hid hbg4
  have HO4 := Lib.hid (HO2.out.new (hc3.trans hca))
  have HC4 := Lib.hid ((HC2.out.trans hc3).trans hca)
  have HOK := Lib.hid (hok3.chg hca (fun x => x))
  have HSA := Lib.hid hca.size
  have H43 := Lib.hid h43
  clear hbg4 hca hok3 hc3 c0 c1 h43
  go_wp2
  refine bodyPost_ret (v := .tuple #[.slice (some ⟨g, 0, none⟩) D.length c2, .bool (eraseBlock D[k]).2]) (by simp [results, Try.results91, go_sem, *]) rfl ?_
  have hg := HGB.out
  have hs1 := HS1.out
  have hsa := HSA.out
  obtain ⟨w4, hw4⟩ : ∃ w4, w3.alloc (.cells #[.int .i64 (eraseBlock D[k]).1.wear, .slice (some ⟨g3, 0, none⟩) 4 c3] 67) = w4 := ⟨_, rfl⟩
  have ho4 := HO4.out
  have hc4 := HC4.out
  have hok4 := HOK.out
  have hb4 := HBG4.out
  rw [hw4] at hsa ho4 hc4 hok4 hb4 ⊢
  have hkT : k < T.length := by rw [HTL.out]; exact hk
  have hset := ho4.setBk (r := ⟨g3, c3, (eraseBlock D[k]).1.wear, (eraseBlock D[k]).1.pages, rest3⟩) hb4 hg hkT (hok4.more (show w1.heap.size ≤ w2.heap.size from Nat.le_of_lt (Nat.lt_of_le_of_lt hg.1 hg.2)) hsa) hok4.1
  rw [show (⟨g3, c3, (eraseBlock D[k]).1.wear, (eraseBlock D[k]).1.pages, rest3⟩ : BkO).ps.length = 4 from H43.out] at hset
  have hcs := chg2 (F := (· = g)) (a := .int .i64 (eraseBlock D[k]).1.wear) (b := .slice (some ⟨g3, 0, none⟩) 4 c3) (Chg.refl (· = g) w4) (.inl rfl) (k * 2)
  unfold EraseAtP
  rw [HY.out]
  refine ⟨some ⟨g, 0, none⟩, c2, T.set k ⟨g3, c3, (eraseBlock D[k]).1.wear, (eraseBlock D[k]).1.pages, rest3⟩, by rw [List.length_set], by rw [bksOf_set, HT.out]; rfl, hset.more hs1 (by simp [World.setCell]), hc4.own hcs (by omega)⟩
set_option maxRecDepth 100000 in
set_option maxHeartbeats 2000000 in
theorem sEraseAt_any (F : Nat → Prop) (A : Option Addr) (c : Nat) (D : List Bk) (n : Int) (w : World) (h : DevR F w A D) (hs : Small D) :
    Calls Try.prog 82 #[.slice A D.length c, .int .i64 n] w (EraseAtP w D n) := by
  have HR := Lib.hid h.lt
  have HNO : ∀ wq (Aq : Option Addr) (cq : Nat), ¬ (DvOk D ∧ (0 ≤ n ∧ n < (D.length : Int))) → Chg NoB w wq → Hid (EraseAtP w D n (.returned (.tuple #[.slice Aq 0 cq, .bool false])) wq) := fun wq Aq cq h1 h2 => Lib.hid (EraseAtP.no h1 h2)
  by_cases hd : DvOk D
  case neg =>
    have HD := Lib.hid hd
    have HS := Lib.hid hs
    clear hd hs h
    go_enter Try.func82, Try.ntmps82
    go_wp2_with fail
    refine (sDeviceValid_f _ A c D _ HR.out HS.out HD.out).mono ?_
    rintro e w1 ⟨rfl, hc1⟩
    have HC := Lib.hid hc1
    clear hc1
    go_wp2
    refine bodyPost_ret (v := .tuple #[.slice (some ⟨w1.heap.size, 0, none⟩) 0 0, .bool false]) (by simp [results, Try.results82, go_sem, *]) rfl ?_
    exact (HNO _ _ _ (fun hh => HD.out hh.1) (HC.out.alloc _)).out
  have hl := hd.1
  have HD := Lib.hid hd
  clear hd h hs
  by_cases hn : 0 ≤ n ∧ n < (D.length : Int)
  case neg =>
    have HN := Lib.hid hn
    clear hn
    have h1 : (1 : Int) ≤ (D.length : Int) := by omega
    have h2 : (D.length : Int) ≤ 12 := by omega
    go_enter Try.func82, Try.ntmps82
    go_wp2_with fail
    refine (sDeviceValid_t _ A c D _ HR.out HD.out).mono ?_
    rintro e w1 ⟨rfl, hc1⟩
    have HC := Lib.hid hc1
    clear hc1
    go_wp2_with fail
    refine (l1In_f n 0 ((D.length : Int) - 1) _ (fun hh => HN.out (by omega))).mono ?_
    rintro e w' ⟨rfl, rfl⟩
    go_wp2
    refine bodyPost_ret (v := .tuple #[.slice (some ⟨w1.heap.size, 0, none⟩) 0 0, .bool false]) (by simp [results, Try.results82, go_sem, *]) rfl ?_
    exact (HNO _ _ _ (fun hh => HN.out hh.2) (HC.out.alloc _)).out
  obtain ⟨k, rfl⟩ := Int.eq_ofNat_of_zero_le hn.1
  have hk : k < D.length := by omega
  have hk0 : (0 : Int) ≤ (k : Int) := Int.natCast_nonneg _
  have hk1 : (k : Int) < (D.length : Int) := by omega
  have hk2 : ¬ ((k : Int) < 0) := by omega
  have hk3 : ¬ ((D.length : Int) ≤ (k : Int)) := by omega
  have h1 : (1 : Int) ≤ (D.length : Int) := by omega
  have h2 : (D.length : Int) ≤ 12 := by omega
  have HY := Lib.hid (eraseAt_yes HD.out hk)
  clear HNO
  go_enter Try.func82, Try.ntmps82
  go_wp2_with fail
  refine (sDeviceValid_t _ A c D _ HR.out HD.out).mono ?_
  rintro e w1 ⟨rfl, hc1⟩
  have HC1 := Lib.hid hc1
  have HR1 := Lib.hid (HR.out.new hc1)
  clear hc1
  go_wp2_with fail
  refine (l1In_t (k : Int) 0 ((D.length : Int) - 1) _ ⟨by omega, by omega⟩).mono ?_
  rintro e w' ⟨rfl, rfl⟩
  go_wp2_with fail
  refine (l5Copy_any _ A c D _ HR1.out HD.out).mono ?_
  rintro e w2 ⟨A2, c2, T, rfl, hT, hO2, hc2⟩
  have hTl : T.length = D.length := by rw [← hT, bksOf_length]
  obtain ⟨g, rest, rfl, hgB, hgE, hbg⟩ := hO2.blk (by omega)
  have HT := Lib.hid hT
  have HTL := Lib.hid hTl
  have HO2 := Lib.hid hO2
  have HBG := Lib.hid hbg
  have HGB := Lib.hid (And.intro hgB hgE)
  have HC2 := Lib.hid (HC1.out.trans hc2)
  have HS1 := Lib.hid HC1.out.size
  obtain ⟨bb, o, A', c', rfl, hf, c0, c1, hr, hcc⟩ := (HR1.out.new hc2) k hk
  have h4 := (HD.out.2 k hk).2.1
  have HBK := Lib.hid (HD.out.2 k hk)
  rw [h4] at c1
  have HRD := Lib.hid hr
  clear hO2 hbg hgB hgE hT hTl hc2 hr h4
  go_wp2_with fail
  refine (sEraseBlock_any _ A' c' D[k] _ HRD.out HBK.out).mono ?_
  rintro e w3 ⟨g3, c3, rest3, rfl, h43, hok3, hc3⟩
  have hca := (Chg.refl NoB w3).alloc (.cells #[.int .i64 (eraseBlock D[k]).1.wear, .slice (some ⟨g3, 0, none⟩) 4 c3] 67)
  have hbg4 := HBG.out.chg (hc3.trans hca) (fun x => x)
  obtain ⟨x0, x1⟩ := DevO.room hbg4 (k := k) (by rw [HTL.out]; exact hk)
  have f0 := hbg4.frozen (k * 2)
  have f1 := hbg4.frozen (k * 2 + 1)
  have HBG4 := Lib.hid hbg4
  have HO4 := Lib.hid (HO2.out.new (hc3.trans hca))
  have HC4 := Lib.hid ((HC2.out.trans hc3).trans hca)
  have HOK := Lib.hid (hok3.chg hca (fun x => x))
  have HSA := Lib.hid hca.size
  have H43 := Lib.hid h43
  clear hbg4 hca hok3 hc3 c0 c1 h43
  go_wp2
  refine bodyPost_ret (v := .tuple #[.slice (some ⟨g, 0, none⟩) D.length c2, .bool (eraseBlock D[k]).2]) (by simp [results, Try.results82, go_sem, *]) rfl ?_
  have hg := HGB.out
  have hs1 := HS1.out
  have hsa := HSA.out
  obtain ⟨w4, hw4⟩ : ∃ w4, w3.alloc (.cells #[.int .i64 (eraseBlock D[k]).1.wear, .slice (some ⟨g3, 0, none⟩) 4 c3] 67) = w4 := ⟨_, rfl⟩
  have ho4 := HO4.out
  have hc4 := HC4.out
  have hok4 := HOK.out
  have hb4 := HBG4.out
  rw [hw4] at hsa ho4 hc4 hok4 hb4 ⊢
  have hkT : k < T.length := by rw [HTL.out]; exact hk
  have hset := ho4.setBk (r := ⟨g3, c3, (eraseBlock D[k]).1.wear, (eraseBlock D[k]).1.pages, rest3⟩) hb4 hg hkT (hok4.more (show w1.heap.size ≤ w2.heap.size from Nat.le_of_lt (Nat.lt_of_le_of_lt hg.1 hg.2)) hsa) hok4.1
  rw [show (⟨g3, c3, (eraseBlock D[k]).1.wear, (eraseBlock D[k]).1.pages, rest3⟩ : BkO).ps.length = 4 from H43.out] at hset
  have hcs := chg2 (F := (· = g)) (a := .int .i64 (eraseBlock D[k]).1.wear) (b := .slice (some ⟨g3, 0, none⟩) 4 c3) (Chg.refl (· = g) w4) (.inl rfl) (k * 2)
  unfold EraseAtP
  rw [HY.out]
  refine ⟨some ⟨g, 0, none⟩, c2, T.set k ⟨g3, c3, (eraseBlock D[k]).1.wear, (eraseBlock D[k]).1.pages, rest3⟩, by rw [List.length_set], by rw [bksOf_set, HT.out]; rfl, hset.more hs1 (by simp [World.setCell]), hc4.own hcs (by omega)⟩
end Go.Proofs.Ytpiojofmflfkkaa
