/- Writes: PutsValid and PutValue of the program and of the reference. -/
import Derived.Test.YtgfhplejdpjgoaaN
import Derived.Test.YtgfhplejdpjgoaaI
import Derived.Test.YtgfhplejdpjgoaaO
namespace Go.Proofs.Ytgfhplejdpjgoaa
open Go.RowKit

structure Pt where
  file : Int
  place : Int
  value : Int
def Pt.enc (l : Pt) : List Value := [.int .i64 l.file, .int .i64 l.place, .int .i64 l.value]
def pcells (xs : List Pt) : List Value := xs.flatMap Pt.enc
theorem Pt.enc_len (l : Pt) : l.enc.length = 3 := rfl
theorem pt_at {F : Nat → Prop} {w : World} {A : Option Addr} {xs : List Pt} (h : Rd F w A (pcells xs)) {k : Nat} (hk : k < xs.length) :
    ∃ b o, A = some ⟨b, o, none⟩ ∧ F b ∧ b < w.heap.size ∧ w.cell? ⟨b, o + k * 3, none⟩ = some (.int .i64 xs[k].file) ∧ w.cell? ⟨b, o + k * 3 + 1, none⟩ = some (.int .i64 xs[k].place) ∧ w.cell? ⟨b, o + k * 3 + 2, none⟩ = some (.int .i64 xs[k].value) := by
  obtain ⟨b, o, e, hf, hb, hc⟩ := h.flat Pt.enc_len hk (by omega)
  exact ⟨b, o, e, hf, hb, hc 0 _ rfl, hc 1 _ rfl, hc 2 _ rfl⟩

def Pt.ok (l : Pt) : Prop := 0 ≤ l.file ∧ l.file < 8 ∧ 0 ≤ l.place ∧ l.place ≤ 5 ∧ 0 ≤ l.value ∧ l.value ≤ 9999
def putsOk (xs : List Pt) : Prop := xs.length ≤ 20 ∧ ∀ x ∈ xs, x.ok
theorem putsOk_not {xs : List Pt} {k : Nat} (h : k < xs.length) (hn : ¬ xs[k].ok) : ¬ putsOk xs := fun ⟨_, ha⟩ => hn (ha _ (List.getElem_mem h))
theorem pok_take_succ {xs : List Pt} {k : Nat} (h : k < xs.length) (ha : ∀ x ∈ xs.take k, x.ok) (hk : xs[k].ok) : ∀ x ∈ xs.take (k + 1), x.ok := by
  rw [List.take_succ_eq_append_getElem h]
  intro x hx
  rcases List.mem_append.1 hx with h1 | h1
  · exact ha x h1
  · simp at h1; subst h1; exact hk

set_option maxRecDepth 100000 in
set_option maxHeartbeats 1000000 in
theorem iPutsValid_any (F : Nat → Prop) (A : Option Addr) (c : Nat) (xs : List Pt) (w : World) (h : Rd F w A (pcells xs)) :
    Calls Try.prog 23 #[.slice A xs.length c] w (Says w (putsOk xs)) := by
  by_cases hl : xs.length ≤ 20
  case neg =>
    have hl' : 20 < xs.length := by omega
    go_enter Try.func23, Try.ntmps23
    go_wp2
    go_ret
    exact Says.no (fun hh => hl hh.1) (Chg.refl _ _)
  go_enter Try.func23, Try.ntmps23
  go_wp2
  go_loopw [10] (fun i wr => ∃ k : Nat, k ≤ xs.length ∧ i = .int .i64 k ∧ Chg NoB w wr ∧ Hid (∀ x ∈ xs.take k, x.ok)) (fun i _ => xs.length - (intOf i).toNat)
  case atStart => exact ⟨0, Nat.zero_le _, rfl, Chg.refl _ _, Lib.hid (by simp)⟩
  case round =>
    obtain ⟨k, hk, rfl, hch, hok⟩ := hrel
    have HC := Lib.hid hch
    by_cases hlt : k < xs.length
    · obtain ⟨bb, oo, rfl, hf, hbl, hc0, hc1, hc2⟩ := pt_at (h.lt.chg hch fun _ _ x => x) hlt
      have HN := Lib.hid (putsOk_not hlt)
      have HS := Lib.hid (pok_take_succ hlt hok.out)
      unfold Pt.ok at HN HS
      clear hch
      go_wp2
      all_goals first
        | (go_ret; exact Says.no (HN.out (by omega)) (HC.out.alloc _))
        | skip
      go_roundw
      case rel => exact ⟨k + 1, by omega, by go_num, HC.out.alloc _, Lib.hid (HS.out (by omega))⟩
      case measure => simp [intOf]; omega
    · clear hch
      go_wp2
      go_ret
      have hk' : k = xs.length := by omega
      subst hk'
      exact Says.yes ⟨hl, by have := hok.out; rwa [List.take_length] at this⟩ HC.out

set_option maxRecDepth 100000 in
set_option maxHeartbeats 1000000 in
theorem sPutsValid_any (F : Nat → Prop) (A : Option Addr) (c : Nat) (xs : List Pt) (w : World) (h : Rd F w A (pcells xs)) (hm : xs.length ≤ 9223372036854775807) :
    Calls Try.prog 21 #[.slice A xs.length c] w (Says w (putsOk xs)) := by
  go_enter Try.func21, Try.ntmps21
  go_wp2
  go_loop [3] (fun i => ∃ k : Nat, k ≤ xs.length ∧ i = .int .i64 k ∧ Hid (∀ x ∈ xs.take k, x.ok)) (fun i => xs.length - (intOf i).toNat)
  case atStart => exact ⟨0, Nat.zero_le _, rfl, Lib.hid (by simp)⟩
  case round =>
    obtain ⟨k, hk, rfl, hok⟩ := hrel
    by_cases hlt : k < xs.length
    · obtain ⟨bb, oo, rfl, hf, hbl, hc0, hc1, hc2⟩ := pt_at h hlt
      have HN := Lib.hid (putsOk_not hlt)
      have HS := Lib.hid (pok_take_succ hlt hok.out)
      unfold Pt.ok at HN HS
      by_cases h1 : 0 ≤ xs[k].file ∧ xs[k].file ≤ 7
      case neg =>
        go_wp2_with fail
        refine (l1In_f _ 0 7 _ h1).mono ?_
        rintro e w' ⟨rfl, rfl⟩
        go_wp2
        go_ret
        exact Says.no (HN.out (by omega)) (Chg.refl _ _)
      go_wp2_with fail
      refine (l1In_t _ 0 7 _ h1).mono ?_
      rintro e w' ⟨rfl, rfl⟩
      by_cases h2 : 0 ≤ xs[k].place ∧ xs[k].place ≤ 5
      case neg =>
        go_wp2_with fail
        refine (l1In_f _ 0 5 _ h2).mono ?_
        rintro e w' ⟨rfl, rfl⟩
        go_wp2
        go_ret
        exact Says.no (HN.out (by omega)) (Chg.refl _ _)
      go_wp2_with fail
      refine (l1In_t _ 0 5 _ h2).mono ?_
      rintro e w' ⟨rfl, rfl⟩
      by_cases h3 : 0 ≤ xs[k].value ∧ xs[k].value ≤ 9999
      case neg =>
        go_wp2_with fail
        refine (l1In_f _ 0 9999 _ h3).mono ?_
        rintro e w' ⟨rfl, rfl⟩
        go_wp2
        go_ret
        exact Says.no (HN.out (by omega)) (Chg.refl _ _)
      go_wp2_with fail
      refine (l1In_t _ 0 9999 _ h3).mono ?_
      rintro e w' ⟨rfl, rfl⟩
      go_wp2
      go_round
      case rel => exact ⟨k + 1, by omega, by go_num, Lib.hid (HS.out (by omega))⟩
      case measure => simp [intOf]; omega
    · go_wp2
      go_ret
      have hk' : k = xs.length := by omega
      subst hk'
      refine Says.both ?_ (Chg.refl _ _)
      have hall := hok.out
      rw [List.take_length] at hall
      constructor
      · intro h8; exact ⟨by have := of_decide_eq_true h8; omega, hall⟩
      · intro h8; exact decide_eq_true (by have := h8.1; omega)

/-- The last value to the file and the place. -/
def lastVal (f p : Int) (xs : List Pt) : Int := xs.foldl (fun v x => if x.file = f ∧ x.place = p then x.value else v) (-1)
theorem lastVal_succ (f p : Int) (xs : List Pt) (k : Nat) (h : k < xs.length) : lastVal f p (xs.take (k + 1)) = if xs[k].file = f ∧ xs[k].place = p then xs[k].value else lastVal f p (xs.take k) := by
  unfold lastVal; rw [List.take_succ_eq_append_getElem h, List.foldl_append]; rfl
theorem lastVal_lo (f p : Int) (xs : List Pt) (h : putsOk xs) : -1 ≤ lastVal f p xs ∧ lastVal f p xs ≤ 9999 := by
  have : ∀ (l : List Pt) (v : Int), (∀ x ∈ l, x.ok) → -1 ≤ v → v ≤ 9999 → -1 ≤ l.foldl (fun v x => if x.file = f ∧ x.place = p then x.value else v) v ∧ l.foldl (fun v x => if x.file = f ∧ x.place = p then x.value else v) v ≤ 9999 := by
    intro l
    induction l with
    | nil => intro v _ h1 h2; exact ⟨h1, h2⟩
    | cons x l ih =>
      intro v ha h1 h2
      rw [List.foldl_cons]
      have hx := ha x (by simp)
      unfold Pt.ok at hx
      refine ih _ (fun y hy => ha y (by simp [hy])) ?_ ?_ <;> split <;> omega
  exact this xs (-1) h.2 (by omega) (by omega)
def PutV (w : World) (f p : Int) (xs : List Pt) (e : Ending) (w' : World) : Prop := ∃ v : Int, e = .returned (.int .i64 v) ∧ (putsOk xs → v = lastVal f p xs) ∧ (¬ putsOk xs → v = -1) ∧ Chg NoB w w'

set_option maxRecDepth 100000 in
set_option maxHeartbeats 1000000 in
theorem iPutValue_any (F : Nat → Prop) (A : Option Addr) (c : Nat) (xs : List Pt) (f p : Int) (w : World) (h : Rd F w A (pcells xs)) :
    Calls Try.prog 28 #[.slice A xs.length c, .int .i64 f, .int .i64 p] w (PutV w f p xs) := by
  go_enter Try.func28, Try.ntmps28
  go_wp2_with fail
  refine (iPutsValid_any F A c xs w h).mono ?_
  rintro e w1 ⟨b, rfl, hb, hc1⟩
  cases b
  · have hno : ¬ putsOk xs := fun hh => by have := hb.2 hh; cases this
    clear hb
    go_wp2
    go_ret
    exact ⟨-1, rfl, fun hh => absurd hh hno, fun _ => rfl, hc1⟩
  · have HOK := Lib.hid (hb.1 rfl)
    have h8 : xs.length ≤ 20 := HOK.out.1
    clear hb
    go_wp2
    go_loopw [7, 15] (fun v i wr => ∃ k : Nat, k ≤ xs.length ∧ i = .int .i64 k ∧ v = .int .i64 (lastVal f p (xs.take k)) ∧ Chg NoB w wr) (fun _ i _ => xs.length - (intOf i).toNat)
    case atStart => exact ⟨0, Nat.zero_le _, rfl, rfl, hc1⟩
    case round =>
      obtain ⟨k, hk, rfl, rfl, hch⟩ := hrel
      have HC := Lib.hid hch
      by_cases hlt : k < xs.length
      · obtain ⟨bb, oo, rfl, hf, hbl, hc0, hc1', hc2⟩ := pt_at (h.lt.chg hch fun _ _ x => x) hlt
        have HS := Lib.hid (lastVal_succ f p xs k hlt)
        clear hch hc1
        by_cases h1 : xs[k].file = f
        · have h1' : (xs[k].file == f) = true := beq_iff_eq.2 h1
          by_cases h2 : xs[k].place = p
          · have h2' : (xs[k].place == p) = true := beq_iff_eq.2 h2
            have HV := Lib.hid (show lastVal f p (xs.take (k + 1)) = xs[k].value by rw [HS.out, if_pos ⟨h1, h2⟩])
            clear h1 h2
            go_wp2
            go_roundw
            case rel => exact ⟨k + 1, by omega, by go_num, by rw [HV.out], HC.out.alloc _⟩
            case measure => simp [intOf]; omega
          · have h2' : (xs[k].place == p) = false := beq_eq_false_iff_ne.2 h2
            have HV := Lib.hid (show lastVal f p (xs.take (k + 1)) = lastVal f p (xs.take k) by rw [HS.out, if_neg (fun hh => h2 hh.2)])
            clear h1
            go_wp2
            go_roundw
            case rel => exact ⟨k + 1, by omega, by go_num, by rw [HV.out], HC.out.alloc _⟩
            case measure => simp [intOf]; omega
        · have h1' : (xs[k].file == f) = false := beq_eq_false_iff_ne.2 h1
          have HV := Lib.hid (show lastVal f p (xs.take (k + 1)) = lastVal f p (xs.take k) by rw [HS.out, if_neg (fun hh => h1 hh.1)])
          go_wp2
          go_roundw
          case rel => exact ⟨k + 1, by omega, by go_num, by rw [HV.out], HC.out.alloc _⟩
          case measure => simp [intOf]; omega
      · clear hch
        go_wp2
        go_ret
        exact ⟨_, rfl, fun _ => by rw [List.take_of_length_le (by omega)], fun hh => absurd HOK.out hh, HC.out⟩

set_option maxRecDepth 100000 in
set_option maxHeartbeats 1000000 in
theorem sPutValue_any (F : Nat → Prop) (A : Option Addr) (c : Nat) (xs : List Pt) (f p : Int) (w : World) (h : Rd F w A (pcells xs)) (hm : xs.length ≤ 9223372036854775807) :
    Calls Try.prog 27 #[.slice A xs.length c, .int .i64 f, .int .i64 p] w (PutV w f p xs) := by
  go_enter Try.func27, Try.ntmps27
  go_wp2
  go_loopw [7, 8] (fun v i wr => ∃ k : Nat, k ≤ xs.length ∧ i = .int .i64 k ∧ v = .int .i64 (lastVal f p (xs.take k)) ∧ Chg NoB w wr ∧ Hid (0 < k → putsOk xs)) (fun _ i _ => xs.length - (intOf i).toNat)
  case atStart => exact ⟨0, Nat.zero_le _, rfl, rfl, Chg.refl _ _, Lib.hid (fun hh => absurd hh (by omega))⟩
  case round =>
    obtain ⟨k, hk, rfl, rfl, hch, hok⟩ := hrel
    have HC := Lib.hid hch
    by_cases hlt : k < xs.length
    · have hrd := h.lt.chg hch fun _ _ x => x
      clear hch
      go_wp2_with fail
      refine (sPutsValid_any _ A c xs _ hrd hm).mono ?_
      rintro e w1 ⟨b, rfl, hb, hc1⟩
      cases b
      · have hno : ¬ putsOk xs := fun hh => by have := hb.2 hh; cases this
        clear hb
        have hk0 : k = 0 := by
          rcases Nat.eq_zero_or_pos k with h0 | h0
          · exact h0
          · exact absurd (hok.out h0) hno
        subst hk0
        go_wp2
        go_ret
        exact ⟨_, rfl, fun hh => absurd hh hno, fun _ => rfl, HC.out.trans hc1⟩
      · have HY := Lib.hid (hb.1 rfl)
        have h8 : xs.length ≤ 20 := HY.out.1
        obtain ⟨bb, oo, rfl, hf, hbl, hc0, hc1', hc2⟩ := pt_at (hrd.chg hc1 fun _ _ x => x) hlt
        have HS := Lib.hid (lastVal_succ f p xs k hlt)
        have HC1 := Lib.hid (HC.out.trans hc1)
        clear hc1 hb hrd
        by_cases h1 : xs[k].file = f
        · have h1' : (xs[k].file == f) = true := beq_iff_eq.2 h1
          by_cases h2 : xs[k].place = p
          · have h2' : (xs[k].place == p) = true := beq_iff_eq.2 h2
            have HV := Lib.hid (show lastVal f p (xs.take (k + 1)) = xs[k].value by rw [HS.out, if_pos ⟨h1, h2⟩])
            clear h1 h2
            go_wp2
            go_roundw
            case rel => exact ⟨k + 1, by omega, by go_num, by rw [HV.out], HC1.out, Lib.hid fun _ => HY.out⟩
            case measure => simp [intOf]; omega
          · have h2' : (xs[k].place == p) = false := beq_eq_false_iff_ne.2 h2
            have HV := Lib.hid (show lastVal f p (xs.take (k + 1)) = lastVal f p (xs.take k) by rw [HS.out, if_neg (fun hh => h2 hh.2)])
            clear h1
            go_wp2
            go_roundw
            case rel => exact ⟨k + 1, by omega, by go_num, by rw [HV.out], HC1.out, Lib.hid fun _ => HY.out⟩
            case measure => simp [intOf]; omega
        · have h1' : (xs[k].file == f) = false := beq_eq_false_iff_ne.2 h1
          have HV := Lib.hid (show lastVal f p (xs.take (k + 1)) = lastVal f p (xs.take k) by rw [HS.out, if_neg (fun hh => h1 hh.1)])
          go_wp2
          go_roundw
          case rel => exact ⟨k + 1, by omega, by go_num, by rw [HV.out], HC1.out, Lib.hid fun _ => HY.out⟩
          case measure => simp [intOf]; omega
    · clear hch
      go_wp2
      go_ret
      refine ⟨_, rfl, fun _ => by rw [List.take_of_length_le (by omega)], fun hh => ?_, HC.out⟩
      have hk' : k = xs.length := by omega
      rcases Nat.eq_zero_or_pos k with h0 | h0
      · subst h0; rfl
      · exact absurd (hok.out h0) hh
end Go.Proofs.Ytgfhplejdpjgoaa
