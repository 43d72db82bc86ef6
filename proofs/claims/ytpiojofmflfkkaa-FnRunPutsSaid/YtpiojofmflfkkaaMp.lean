/- Parts of the proof, merged: P, Pa, Un. -/
import Derived.Test.YtpiojofmflfkkaaMa
import Derived.Deep.RegionHeld3
/- Writes: PutsValid and PutValue of the program and of the reference. -/
namespace Go.Proofs.Ytpiojofmflfkkaa
open Go.RowKit

structure Pt where
  file : Int
  place : Int
  value : Int
def Pt.enc (l : Pt) : List Value := [.int .i64 l.file, .int .i64 l.place, .int .i64 l.value]
def putcells (xs : List Pt) : List Value := xs.flatMap Pt.enc
theorem Pt.enc_len (l : Pt) : l.enc.length = 3 := rfl
theorem pt_at {F : Nat → Prop} {w : World} {A : Option Addr} {xs : List Pt} (h : Rd F w A (putcells xs)) {k : Nat} (hk : k < xs.length) :
    ∃ b o, A = some ⟨b, o, none⟩ ∧ F b ∧ b < w.heap.size ∧ w.cell? ⟨b, o + k * 3, none⟩ = some (.int .i64 xs[k].file) ∧ w.cell? ⟨b, o + k * 3 + 1, none⟩ = some (.int .i64 xs[k].place) ∧ w.cell? ⟨b, o + k * 3 + 2, none⟩ = some (.int .i64 xs[k].value) := by
  obtain ⟨b, o, e, hf, hb, hc⟩ := h.flat Pt.enc_len hk (by omega)
  exact ⟨b, o, e, hf, hb, hc 0 _ rfl, hc 1 _ rfl, hc 2 _ rfl⟩

def Pt.ok (l : Pt) : Prop := 0 ≤ l.file ∧ l.file < 8 ∧ 0 ≤ l.place ∧ l.place ≤ 5 ∧ 0 ≤ l.value ∧ l.value ≤ 9999
def putsOk (xs : List Pt) : Prop := xs.length ≤ 20 ∧ ∀ x ∈ xs, x.ok
theorem putsOk_not {xs : List Pt} {k : Nat} (h : k < xs.length) (hn : ¬ xs[k].ok) : ¬ putsOk xs := fun ⟨_, ha⟩ => hn (ha _ (List.getElem_mem h))
theorem pok_take_succ {xs : List Pt} {k : Nat} (h : k < xs.length) (ha : ∀ x ∈ xs.take k, x.ok) (hk : xs[k].ok) : ∀ x ∈ xs.take (k + 1), x.ok := by
  rw [List.take_succ_eq_append_getElem h]
  intro x hx
  rcases List.mem_append.1 hx with h1 | h1
  · exact ha x h1
  · simp at h1; subst h1; exact hk

set_option maxRecDepth 100000 in
set_option maxHeartbeats 1000000 in
theorem iPutsValid_any (F : Nat → Prop) (A : Option Addr) (c : Nat) (xs : List Pt) (w : World) (h : Rd F w A (putcells xs)) :
    Calls Try.prog 105 #[.slice A xs.length c] w (Says w (putsOk xs)) := by
  by_cases hl : xs.length ≤ 20
  case neg =>
    have hl' : 20 < xs.length := by omega
    go_enter Try.func105, Try.ntmps105
    go_wp2
    go_ret
    exact Says.no (fun hh => hl hh.1) (Chg.refl _ _)
  go_enter Try.func105, Try.ntmps105
  go_wp2
  go_loopw [10] (fun i wr => ∃ k : Nat, k ≤ xs.length ∧ i = .int .i64 k ∧ Chg NoB w wr ∧ Hid (∀ x ∈ xs.take k, x.ok)) (fun i _ => xs.length - (intOf i).toNat)
  case atStart => exact ⟨0, Nat.zero_le _, rfl, Chg.refl _ _, Lib.hid (by simp)⟩
  case round =>
    obtain ⟨k, hk, rfl, hch, hok⟩ := hrel
    have HC := Lib.hid hch
    by_cases hlt : k < xs.length
    · obtain ⟨bb, oo, rfl, hf, hbl, hc0, hc1, hc2⟩ := pt_at (h.lt.chg hch fun _ _ x => x) hlt
      have HN := Lib.hid (putsOk_not hlt)
      have HS := Lib.hid (pok_take_succ hlt hok.out)
      unfold Pt.ok at HN HS
      clear hch
      go_wp2
      all_goals first
        | (go_ret; exact Says.no (HN.out (by omega)) (HC.out.alloc _))
        | skip
      go_roundw
      case rel => exact ⟨k + 1, by omega, by go_num, HC.out.alloc _, Lib.hid (HS.out (by omega))⟩
      case measure => simp [intOf]; omega
    · clear hch
      go_wp2
      go_ret
      have hk' : k = xs.length := by omega
      subst hk'
      exact Says.yes ⟨hl, by have := hok.out; rwa [List.take_length] at this⟩ HC.out

set_option maxRecDepth 100000 in
set_option maxHeartbeats 1000000 in
theorem sPutsValid_any (F : Nat → Prop) (A : Option Addr) (c : Nat) (xs : List Pt) (w : World) (h : Rd F w A (putcells xs)) (hm : xs.length ≤ 9223372036854775807) :
    Calls Try.prog 102 #[.slice A xs.length c] w (Says w (putsOk xs)) := by
  go_enter Try.func102, Try.ntmps102
  go_wp2
  go_loop [3] (fun i => ∃ k : Nat, k ≤ xs.length ∧ i = .int .i64 k ∧ Hid (∀ x ∈ xs.take k, x.ok)) (fun i => xs.length - (intOf i).toNat)
  case atStart => exact ⟨0, Nat.zero_le _, rfl, Lib.hid (by simp)⟩
  case round =>
    obtain ⟨k, hk, rfl, hok⟩ := hrel
    by_cases hlt : k < xs.length
    · obtain ⟨bb, oo, rfl, hf, hbl, hc0, hc1, hc2⟩ := pt_at h hlt
      have HN := Lib.hid (putsOk_not hlt)
      have HS := Lib.hid (pok_take_succ hlt hok.out)
      unfold Pt.ok at HN HS
      by_cases h1 : 0 ≤ xs[k].file ∧ xs[k].file ≤ 7
      case neg =>
        go_wp2_with fail
        refine (l1In_f _ 0 7 _ h1).mono ?_
        rintro e w' ⟨rfl, rfl⟩
        go_wp2
        go_ret
        exact Says.no (HN.out (by omega)) (Chg.refl _ _)
      go_wp2_with fail
      refine (l1In_t _ 0 7 _ h1).mono ?_
      rintro e w' ⟨rfl, rfl⟩
      by_cases h2 : 0 ≤ xs[k].place ∧ xs[k].place ≤ 5
      case neg =>
        go_wp2_with fail
        refine (l1In_f _ 0 5 _ h2).mono ?_
        rintro e w' ⟨rfl, rfl⟩
        go_wp2
        go_ret
        exact Says.no (HN.out (by omega)) (Chg.refl _ _)
      go_wp2_with fail
      refine (l1In_t _ 0 5 _ h2).mono ?_
      rintro e w' ⟨rfl, rfl⟩
      by_cases h3 : 0 ≤ xs[k].value ∧ xs[k].value ≤ 9999
      case neg =>
        go_wp2_with fail
        refine (l1In_f _ 0 9999 _ h3).mono ?_
        rintro e w' ⟨rfl, rfl⟩
        go_wp2
        go_ret
        exact Says.no (HN.out (by omega)) (Chg.refl _ _)
      go_wp2_with fail
      refine (l1In_t _ 0 9999 _ h3).mono ?_
      rintro e w' ⟨rfl, rfl⟩
      go_wp2
      go_round
      case rel => exact ⟨k + 1, by omega, by go_num, Lib.hid (HS.out (by omega))⟩
      case measure => simp [intOf]; omega
    · go_wp2
      go_ret
      have hk' : k = xs.length := by omega
      subst hk'
      refine Says.both ?_ (Chg.refl _ _)
      have hall := hok.out
      rw [List.take_length] at hall
      constructor
      · intro h8; exact ⟨by have := of_decide_eq_true h8; omega, hall⟩
      · intro h8; exact decide_eq_true (by have := h8.1; omega)

/-- The last value to the file and the place. -/
def lastVal (f p : Int) (xs : List Pt) : Int := xs.foldl (fun v x => if x.file = f ∧ x.place = p then x.value else v) (-1)
theorem lastVal_succ (f p : Int) (xs : List Pt) (k : Nat) (h : k < xs.length) : lastVal f p (xs.take (k + 1)) = if xs[k].file = f ∧ xs[k].place = p then xs[k].value else lastVal f p (xs.take k) := by
  unfold lastVal; rw [List.take_succ_eq_append_getElem h, List.foldl_append]; rfl
theorem lastVal_lo (f p : Int) (xs : List Pt) (h : putsOk xs) : -1 ≤ lastVal f p xs ∧ lastVal f p xs ≤ 9999 := by
  have : ∀ (l : List Pt) (v : Int), (∀ x ∈ l, x.ok) → -1 ≤ v → v ≤ 9999 → -1 ≤ l.foldl (fun v x => if x.file = f ∧ x.place = p then x.value else v) v ∧ l.foldl (fun v x => if x.file = f ∧ x.place = p then x.value else v) v ≤ 9999 := by
    intro l
    induction l with
    | nil => intro v _ h1 h2; exact ⟨h1, h2⟩
    | cons x l ih =>
      intro v ha h1 h2
      rw [List.foldl_cons]
      have hx := ha x (by simp)
      unfold Pt.ok at hx
      refine ih _ (fun y hy => ha y (by simp [hy])) ?_ ?_ <;> split <;> omega
  exact this xs (-1) h.2 (by omega) (by omega)
def PutV (w : World) (f p : Int) (xs : List Pt) (e : Ending) (w' : World) : Prop := ∃ v : Int, e = .returned (.int .i64 v) ∧ (putsOk xs → v = lastVal f p xs) ∧ (¬ putsOk xs → v = -1) ∧ Chg NoB w w'

set_option maxRecDepth 100000 in
set_option maxHeartbeats 1000000 in
theorem iPutValue_any (F : Nat → Prop) (A : Option Addr) (c : Nat) (xs : List Pt) (f p : Int) (w : World) (h : Rd F w A (putcells xs)) :
    Calls Try.prog 49 #[.slice A xs.length c, .int .i64 f, .int .i64 p] w (PutV w f p xs) := by
  go_enter Try.func49, Try.ntmps49
  go_wp2_with fail
  refine (iPutsValid_any F A c xs w h).mono ?_
  rintro e w1 ⟨b, rfl, hb, hc1⟩
  cases b
  · have hno : ¬ putsOk xs := fun hh => by have := hb.2 hh; cases this
    clear hb
    go_wp2
    go_ret
    exact ⟨-1, rfl, fun hh => absurd hh hno, fun _ => rfl, hc1⟩
  · have HOK := Lib.hid (hb.1 rfl)
    have h8 : xs.length ≤ 20 := HOK.out.1
    clear hb
    go_wp2
    go_loopw [7, 15] (fun v i wr => ∃ k : Nat, k ≤ xs.length ∧ i = .int .i64 k ∧ v = .int .i64 (lastVal f p (xs.take k)) ∧ Chg NoB w wr) (fun _ i _ => xs.length - (intOf i).toNat)
    case atStart => exact ⟨0, Nat.zero_le _, rfl, rfl, hc1⟩
    case round =>
      obtain ⟨k, hk, rfl, rfl, hch⟩ := hrel
      have HC := Lib.hid hch
      by_cases hlt : k < xs.length
      · obtain ⟨bb, oo, rfl, hf, hbl, hc0, hc1', hc2⟩ := pt_at (h.lt.chg hch fun _ _ x => x) hlt
        have HS := Lib.hid (lastVal_succ f p xs k hlt)
        clear hch hc1
        by_cases h1 : xs[k].file = f
        · have h1' : (xs[k].file == f) = true := beq_iff_eq.2 h1
          by_cases h2 : xs[k].place = p
          · have h2' : (xs[k].place == p) = true := beq_iff_eq.2 h2
            have HV := Lib.hid (show lastVal f p (xs.take (k + 1)) = xs[k].value by rw [HS.out, if_pos ⟨h1, h2⟩])
            clear h1 h2
            go_wp2
            go_roundw
            case rel => exact ⟨k + 1, by omega, by go_num, by rw [HV.out], HC.out.alloc _⟩
            case measure => simp [intOf]; omega
          · have h2' : (xs[k].place == p) = false := beq_eq_false_iff_ne.2 h2
            have HV := Lib.hid (show lastVal f p (xs.take (k + 1)) = lastVal f p (xs.take k) by rw [HS.out, if_neg (fun hh => h2 hh.2)])
            clear h1
            go_wp2
            go_roundw
            case rel => exact ⟨k + 1, by omega, by go_num, by rw [HV.out], HC.out.alloc _⟩
            case measure => simp [intOf]; omega
        · have h1' : (xs[k].file == f) = false := beq_eq_false_iff_ne.2 h1
          have HV := Lib.hid (show lastVal f p (xs.take (k + 1)) = lastVal f p (xs.take k) by rw [HS.out, if_neg (fun hh => h1 hh.1)])
          go_wp2
          go_roundw
          case rel => exact ⟨k + 1, by omega, by go_num, by rw [HV.out], HC.out.alloc _⟩
          case measure => simp [intOf]; omega
      · clear hch
        go_wp2
        go_ret
        exact ⟨_, rfl, fun _ => by rw [List.take_of_length_le (by omega)], fun hh => absurd HOK.out hh, HC.out⟩

end Go.Proofs.Ytpiojofmflfkkaa
/- The laws' helpers on writes: sizes, copies, comparisons; FnExactPutsValid, FnExactPutValue: the walks. -/
namespace Go.Proofs.Ytpiojofmflfkkaa
open Go.RowKit

theorem szPutS_any (A : Option Addr) (n c : Nat) (w : World) (hn : n ≤ maxLen) :
    Calls Try.prog 40 #[.slice A n c, .int .i64 1048576] w fun e w' => ∃ x : Int, e = .returned (.int .i64 x) ∧ (x < 0 ↔ 1048576 < n) ∧ w = w' := by
  unfold maxLen at hn
  by_cases h : 1048576 < n
  · go_enter Try.func40, Try.ntmps40
    go_wp2
    go_ret
    exact ⟨-1, rfl, by omega, rfl⟩
  · go_enter Try.func40, Try.ntmps40
    go_wp2
    go_ret
    exact ⟨_, rfl, by omega, rfl⟩

theorem toPut_any (a b c : Int) (w : World) :
    Calls Try.prog 104 #[.agg #[.int .i64 a, .int .i64 b, .int .i64 c]] w fun e w' => e = .returned (.agg #[.int .i64 a, .int .i64 b, .int .i64 c]) ∧ Chg NoB w w' := by
  go_enter Try.func104, Try.ntmps104
  go_wp2
  refine bodyPost_ret (v := .agg #[.int .i64 a, .int .i64 b, .int .i64 c]) (by simp [results, Try.results104, go_sem]) rfl ⟨rfl, ?_⟩
  exact (((Chg.refl _ _).alloc _).alloc _).alloc _

theorem eqPut_t (a b c : Int) (w : World) :
    Calls Try.prog 107 #[.agg #[.int .i64 a, .int .i64 b, .int .i64 c], .agg #[.int .i64 a, .int .i64 b, .int .i64 c]] w fun e w' => e = .returned (.bool true) ∧ Chg NoB w w' := by
  have h1 : (a != a) = false := by simp
  have h2 : (b != b) = false := by simp
  have h3 : (c != c) = false := by simp
  go_enter Try.func107, Try.ntmps107
  go_wp2
  go_ret
  exact ⟨rfl, ((Chg.refl _ _).alloc _).alloc _⟩

theorem info_put : (Try.prog.info? 138).map (fun i => (i.zero, i.size, i.bytes)) = some (some (.agg #[.int .i64 0, .int .i64 0, .int .i64 0]), 3, 24) := by kernel_rfl

theorem putcells_len (xs : List Pt) : (putcells xs).length = xs.length * 3 := flat_length Pt.enc_len xs
theorem putcells_take_succ (xs : List Pt) (k : Nat) (h : k < xs.length) : putcells (xs.take (k + 1)) = putcells (xs.take k) ++ [.int .i64 xs[k].file, .int .i64 xs[k].place, .int .i64 xs[k].value] := flat_take_succ xs k h

set_option maxRecDepth 100000 in
set_option maxHeartbeats 1000000 in
theorem toPutS_any (F : Nat → Prop) (A : Option Addr) (c : Nat) (xs : List Pt) (w : World) (h : Rd F w A (putcells xs)) (hl : xs.length ≤ 1048576) :
    Calls Try.prog 42 #[.slice A xs.length c] w fun e w' => ∃ g, e = .returned (.slice (some ⟨g, 0, none⟩) xs.length xs.length) ∧ w.heap.size ≤ g ∧ Chg NoB w w' ∧ Blk w' g 138 (putcells xs).toArray := by
  obtain ⟨i0, hi, hz0, hz1, hz2⟩ := info_parts info_put
  have hmk := fun W => run_make_reps (P := Try.prog) 72 138 i0 (.agg #[.int .i64 0, .int .i64 0, .int .i64 0]) [.int .i64 0, .int .i64 0, .int .i64 0] Try.underlying72 hi hz0 rfl hz1 xs.length (by rw [hz2]; omega) (by omega) W
  go_enter Try.func42, Try.ntmps42
  go_wp2
  go_loopw [4] (fun i wr => ∃ k : Nat, k ≤ xs.length ∧ i = .int .i64 k ∧ Chg NoB w wr ∧ Blk wr w.heap.size 138 (putcells (xs.take k) ++ reps (xs.length - k) [.int .i64 0, .int .i64 0, .int .i64 0]).toArray) (fun i _ => xs.length - (intOf i).toNat)
  case atStart => exact ⟨0, Nat.zero_le _, rfl, (Chg.refl _ _).alloc _, Blk.new _ _ _⟩
  case round =>
    obtain ⟨k, hk, rfl, hch, hb⟩ := hrel
    by_cases hlt : k < xs.length
    · obtain ⟨bb, oo, rfl, hf, hbl, hc0, hc1, hc2⟩ := pt_at (h.lt.chg hch fun _ _ x => x) hlt
      obtain ⟨r, hr⟩ : ∃ r, xs.length - k = r + 1 := ⟨xs.length - k - 1, by omega⟩
      have hr1 : xs.length - (k + 1) = r := by omega
      rw [hr, reps_succ] at hb
      have hlen : (putcells (xs.take k)).length = k * 3 := by rw [putcells_len, List.length_take]; congr 1; omega
      have HT := Lib.hid (putcells_take_succ xs k hlt)
      have HR := Lib.hid hr1
      have HC := Lib.hid hch
      have HB := Lib.hid hb
      have HL := Lib.hid hlen
      clear hr hr1 hlen hb hch
      go_wp2_with fail
      refine (toPut_any _ _ _ _).mono ?_
      rintro e w1 ⟨rfl, hcx⟩
      have hb1 := HB.out.chg hcx (fun x => x)
      have hroom := hb1.room HL.out
      have hroom2 := Blk.roomAt (B := [.int .i64 0]) (j := 1) hb1 HL.out rfl
      have hroom3 := Blk.roomAt (B := [.int .i64 0, .int .i64 0]) (j := 2) hb1 HL.out rfl
      have hfr := hb1.frozen (k * 3)
      have hfr2 := hb1.frozen (k * 3 + 1)
      have hfr3 := hb1.frozen (k * 3 + 2)
      have HF := Lib.hid (hb1.fill3 HL.out (.int .i64 xs[k].file) (.int .i64 xs[k].place) (.int .i64 xs[k].value))
      have HC2 := Lib.hid (HC.out.trans hcx)
      clear hb1 hcx
      go_wp2
      go_roundw
      case rel =>
        refine ⟨k + 1, by omega, by go_num, ((HC2.out.setCell (p := ⟨w.heap.size, k * 3, none⟩) (.inr (Nat.le_refl _)) _).setCell (p := ⟨w.heap.size, k * 3 + 1, none⟩) (.inr (Nat.le_refl _)) _).setCell (p := ⟨w.heap.size, k * 3 + 2, none⟩) (.inr (Nat.le_refl _)) _, ?_⟩
        rw [HT.out, HR.out, List.append_assoc]
        exact HF.out
      case measure => simp [intOf]; omega
    · have hk' : k = xs.length := by omega
      subst hk'
      have HB := Lib.hid hb
      clear hb
      go_wp2
      go_ret
      refine ⟨_, rfl, Nat.le_refl _, hch, ?_⟩
      have := HB.out
      rwa [Nat.sub_self, reps_zero, List.append_nil, List.take_length] at this

set_option maxRecDepth 100000 in
set_option maxHeartbeats 2000000 in
theorem eqPutS_t (F G : Nat → Prop) (A B : Option Addr) (c d : Nat) (xs : List Pt) (w : World) (h : Rd F w A (putcells xs)) (h' : Rd G w B (putcells xs)) (hl : xs.length ≤ 9223372036854775807) :
    Calls Try.prog 44 #[.slice A xs.length c, .slice B xs.length d] w fun e w' => e = .returned (.bool true) ∧ Chg NoB w w' := by
  have hne : ((xs.length : Int) != (xs.length : Int)) = false := by simp
  go_enter Try.func44, Try.ntmps44
  go_wp2
  go_loopw [5] (fun i wr => ∃ k : Nat, k ≤ xs.length ∧ i = .int .i64 k ∧ Chg NoB w wr) (fun i _ => xs.length - (intOf i).toNat)
  case atStart => exact ⟨0, Nat.zero_le _, rfl, Chg.refl _ _⟩
  case round =>
    obtain ⟨k, hk, rfl, hch⟩ := hrel
    by_cases hlt : k < xs.length
    · obtain ⟨bb, oo, rfl, hf, hbl, hc0, hc1, hc2⟩ := pt_at (h.chg hch fun _ _ x => x) hlt
      obtain ⟨bb', oo', rfl, hf', hbl', hc0', hc1', hc2'⟩ := pt_at (h'.chg hch fun _ _ x => x) hlt
      have hi0 : (0 : Int) ≤ (k : Int) := Int.natCast_nonneg _
      have hi1 : (k : Int) < (xs.length : Int) := by omega
      have HC := Lib.hid hch
      clear hch
      go_wp2
      go_region_held3 (fun w' => w'.cell? ⟨bb, oo + k * 3, none⟩ = some (.int .i64 xs[k].file) ∧ w'.cell? ⟨bb, oo + k * 3 + 1, none⟩ = some (.int .i64 xs[k].place) ∧ w'.cell? ⟨bb, oo + k * 3 + 2, none⟩ = some (.int .i64 xs[k].value) ∧ w'.cell? ⟨bb', oo' + k * 3, none⟩ = some (.int .i64 xs[k].file) ∧ w'.cell? ⟨bb', oo' + k * 3 + 1, none⟩ = some (.int .i64 xs[k].place) ∧ w'.cell? ⟨bb', oo' + k * 3 + 2, none⟩ = some (.int .i64 xs[k].value))
        (first | go_keep | exact ⟨hcc.cell (by assumption) (fun x => x), hcc.cell (by assumption) (fun x => x), hcc.cell (by assumption) (fun x => x), hcc.cell (by assumption) (fun x => x), hcc.cell (by assumption) (fun x => x), hcc.cell (by assumption) (fun x => x)⟩)
        ((go_at_call 107; refine (eqPut_t _ _ _ _).mono ?_; rintro e w' ⟨rfl, hcc⟩))
      go_wp2
      go_roundw
      case rel => exact ⟨k + 1, by omega, by go_num, (HC.out.drew).trans hcc⟩
      case measure => simp [intOf]; omega
    · go_wp2
      go_ret
      exact ⟨rfl, hch⟩

end Go.Proofs.Ytpiojofmflfkkaa
/- Marks on writes. -/
namespace Go.Proofs.Ytpiojofmflfkkaa
open Go.RowKit
set_option maxRecDepth 100000 in
set_option maxHeartbeats 1000000 in
theorem markPutS_any (g c n : Nat) (cs0 : Array Value) (k0 : Int) (w : World) (hb : Blk w g 138 cs0) (hs : cs0.size = n * 3) (hl : n ≤ 1048576) (hk0 : 0 ≤ k0) (hk1 : k0 ≤ 1000000000000) :
    Calls Try.prog 45 #[.slice (some ⟨g, 0, none⟩) n c, .int .i64 k0] w fun e w' => e = .returned (.int .i64 (k0 + 3 * (n : Int))) ∧ Chg (· = g) w w' := by
  have HB0 := Lib.hid hb
  have HS0 := Lib.hid hs
  clear hb hs
  go_enter Try.func45, Try.ntmps45
  go_wp2_with fail
  go_loopw [1, 5] (fun v i wr => ∃ (k : Nat) (z : Int) (cs : Array Value), k ≤ n ∧ i = .int .i64 k ∧ v = .int .i64 z ∧ Hid (z = k0 + 3 * (k : Int)) ∧ 0 ≤ z ∧ z ≤ 2000000000000 ∧ Chg (· = g) w wr ∧ Blk wr g 138 cs ∧ Hid (cs.size = n * 3)) (fun _ i _ => n - (intOf i).toNat)
  case atStart => exact ⟨0, k0, cs0, Nat.zero_le _, rfl, rfl, Lib.hid (by simp), hk0, by omega, Chg.refl _ _, HB0.out, HS0⟩
  case round =>
    obtain ⟨k, z, cs, hk, rfl, rfl, HZ, hz0, hz1, hch, hb, HS⟩ := hrel
    have HC := Lib.hid hch
    by_cases hlt : k < n
    · have r0 := (hb.cell (k * 3)).trans (Array.getElem?_eq_getElem (by have := HS.out; omega))
      have r1 := (hb.cell (k * 3 + 1)).trans (Array.getElem?_eq_getElem (by have := HS.out; omega))
      have r2 := (hb.cell (k * 3 + 2)).trans (Array.getElem?_eq_getElem (by have := HS.out; omega))
      have f0 := hb.frozen (k * 3)
      have f1 := hb.frozen (k * 3 + 1)
      have f2 := hb.frozen (k * 3 + 2)
      generalize cs[k * 3]'_ = u0 at r0
      generalize cs[k * 3 + 1]'_ = u1 at r1
      generalize cs[k * 3 + 2]'_ = u2 at r2
      have HB := Lib.hid (((hb.set_ (k * 3) (.int .i64 z)).set_ (k * 3 + 1) (.int .i64 (z + 1))).set_ (k * 3 + 2) (.int .i64 (z + 1 + 1)))
      have hcc := (((Chg.refl (· = g) wr).setCell (p := ⟨g, k * 3, none⟩) (.inl rfl) (.int .i64 z)).setCell (p := ⟨g, k * 3 + 1, none⟩) (.inl rfl) (.int .i64 (z + 1))).setCell (p := ⟨g, k * 3 + 2, none⟩) (.inl rfl) (.int .i64 (z + 1 + 1))
      have HCC := Lib.hid (hch.trans hcc)
      have hk8 : (k : Int) < (n : Int) := by omega
      have hk9 : (0 : Int) ≤ (k : Int) := by omega
      have HZN := Lib.hid (show z + 3 = k0 + 3 * ((k + 1 : Nat) : Int) by have := HZ.out; omega)
      have HZB := Lib.hid (show z + 3 ≤ 2000000000000 by have := HZ.out; omega)
      have hzz : z ≤ 1999999999000 := by have := HZ.out; omega
      clear hb hch hcc
      go_wp2
      go_roundw
      case rel => exact ⟨k + 1, z + 3, _, by omega, by go_num, congrArg (Value.int .i64) (by omega), HZN, by omega, HZB.out, HCC.out, HB.out, Lib.hid (by simp only [Array.size_setIfInBounds]; exact HS.out)⟩
      case measure => simp [intOf]; omega
    · have hlt' : ¬ ((k : Int) < (n : Int)) := by omega
      have hk' : k = n := by omega
      subst hk'
      clear hb hch
      go_wp2
      go_ret
      exact ⟨ret_int HZ.out, HC.out⟩
end Go.Proofs.Ytpiojofmflfkkaa
