/- Links: LinksValid of the program and of the reference; the laws' helpers on links. -/
import Derived.Test.YtbgepefdfioljaaDa
import Derived.Test.YtbgepefdfioljaaN
import Derived.Test.YtbgepefdfioljaaI
import Derived.Test.YtbgepefdfioljaaO
namespace Go.Proofs.Ytbgepefdfioljaa
open Go.RowKit

structure Lk where
  names : Int
  opens : Int
def Lk.enc (l : Lk) : List Value := [.int .i64 l.names, .int .i64 l.opens]
def lcells (xs : List Lk) : List Value := xs.flatMap Lk.enc
theorem Lk.enc_len (l : Lk) : l.enc.length = 2 := rfl
theorem lk_at {F : Nat → Prop} {w : World} {A : Option Addr} {xs : List Lk} (h : Rd F w A (lcells xs)) {k : Nat} (hk : k < xs.length) :
    ∃ b o, A = some ⟨b, o, none⟩ ∧ F b ∧ b < w.heap.size ∧ w.cell? ⟨b, o + k * 2, none⟩ = some (.int .i64 xs[k].names) ∧ w.cell? ⟨b, o + k * 2 + 1, none⟩ = some (.int .i64 xs[k].opens) := by
  obtain ⟨b, o, e, hf, hb, hc⟩ := h.flat Lk.enc_len hk (by omega)
  exact ⟨b, o, e, hf, hb, hc 0 _ rfl, hc 1 _ rfl⟩

def Lk.ok (l : Lk) : Prop := 0 ≤ l.names ∧ l.names ≤ 5 ∧ 0 ≤ l.opens ∧ l.opens ≤ 5
def linksOk (xs : List Lk) : Prop := xs.length = 8 ∧ ∀ x ∈ xs, x.ok

theorem linksOk_not {xs : List Lk} {k : Nat} (h : k < xs.length) (hn : ¬ xs[k].ok) : ¬ linksOk xs := fun ⟨_, ha⟩ => hn (ha _ (List.getElem_mem h))
theorem ok_take_succ {xs : List Lk} {k : Nat} (h : k < xs.length) (ha : ∀ x ∈ xs.take k, x.ok) (hk : xs[k].ok) : ∀ x ∈ xs.take (k + 1), x.ok := by
  rw [List.take_succ_eq_append_getElem h]
  intro x hx
  rcases List.mem_append.1 hx with h1 | h1
  · exact ha x h1
  · simp at h1; subst h1; exact hk

set_option maxHeartbeats 1000000 in
theorem iLinksValid_any (F : Nat → Prop) (A : Option Addr) (c : Nat) (xs : List Lk) (w : World) (h : Rd F w A (lcells xs)) :
    Calls Try.prog 42 #[.slice A xs.length c] w (Says w (linksOk xs)) := by
  by_cases hl : xs.length = 8
  case neg =>
    have hne : ((xs.length : Int) != 8) = true := by rw [bne_iff_ne]; omega
    go_enter Try.func42, Try.ntmps42
    go_wp2
    go_ret
    exact Says.no (fun hh => hl hh.1) (Chg.refl _ _)
  have hne : ((xs.length : Int) != 8) = false := by rw [bne_eq_false_iff_eq]; omega
  have HL := Lib.hid hl
  have hl8 : xs.length ≤ 8 := by omega
  clear hl
  go_enter Try.func42, Try.ntmps42
  go_wp2
  go_loopw [10] (fun i wr => ∃ k : Nat, k ≤ xs.length ∧ i = .int .i64 k ∧ Chg NoB w wr ∧ Hid (∀ x ∈ xs.take k, x.ok)) (fun i _ => xs.length - (intOf i).toNat)
  case atStart => exact ⟨0, Nat.zero_le _, rfl, Chg.refl _ _, Lib.hid (by simp)⟩
  case round =>
    obtain ⟨k, hk, rfl, hch, hok⟩ := hrel
    have HC := Lib.hid hch
    by_cases hlt : k < xs.length
    · obtain ⟨bb, oo, rfl, hf, hbl, hc0, hc1⟩ := lk_at (h.lt.chg hch fun _ _ x => x) hlt
      have HN := Lib.hid (linksOk_not hlt)
      have HS := Lib.hid (ok_take_succ hlt hok.out)
      unfold Lk.ok at HN HS
      clear hch
      go_wp2
      all_goals first
        | (go_ret; exact Says.no (HN.out (by omega)) (HC.out.alloc _))
        | skip
      go_roundw
      case rel => exact ⟨k + 1, by omega, by go_num, HC.out.alloc _, Lib.hid (HS.out (by omega))⟩
      case measure => simp [intOf]; omega
    · clear hch
      go_wp2
      go_ret
      have hk' : k = xs.length := by omega
      subst hk'
      exact Says.yes ⟨HL.out, by have := hok.out; rwa [List.take_length] at this⟩ HC.out

set_option maxHeartbeats 1000000 in
theorem sLinksValid_any (F : Nat → Prop) (A : Option Addr) (c : Nat) (xs : List Lk) (w : World) (h : Rd F w A (lcells xs)) (hm : xs.length ≤ 9223372036854775807) :
    Calls Try.prog 71 #[.slice A xs.length c] w (Says w (linksOk xs)) := by
  go_enter Try.func71, Try.ntmps71
  go_wp2
  go_loop [3] (fun i => ∃ k : Nat, k ≤ xs.length ∧ i = .int .i64 k ∧ Hid (∀ x ∈ xs.take k, x.ok)) (fun i => xs.length - (intOf i).toNat)
  case atStart => exact ⟨0, Nat.zero_le _, rfl, Lib.hid (by simp)⟩
  case round =>
    obtain ⟨k, hk, rfl, hok⟩ := hrel
    by_cases hlt : k < xs.length
    · obtain ⟨bb, oo, rfl, hf, hbl, hc0, hc1⟩ := lk_at h hlt
      have HN := Lib.hid (linksOk_not hlt)
      have HS := Lib.hid (ok_take_succ hlt hok.out)
      unfold Lk.ok at HN HS
      by_cases h1 : 0 ≤ xs[k].names ∧ xs[k].names ≤ 5
      · by_cases h2 : 0 ≤ xs[k].opens ∧ xs[k].opens ≤ 5
        · go_wp2_with fail
          refine (l1In_t _ 0 5 _ h1).mono ?_
          rintro e w' ⟨rfl, rfl⟩
          go_wp2_with fail
          refine (l1In_t _ 0 5 _ h2).mono ?_
          rintro e w' ⟨rfl, rfl⟩
          go_wp2
          go_round
          case rel => exact ⟨k + 1, by omega, by go_num, Lib.hid (HS.out (by omega))⟩
          case measure => simp [intOf]; omega
        · go_wp2_with fail
          refine (l1In_t _ 0 5 _ h1).mono ?_
          rintro e w' ⟨rfl, rfl⟩
          go_wp2_with fail
          refine (l1In_f _ 0 5 _ h2).mono ?_
          rintro e w' ⟨rfl, rfl⟩
          go_wp2
          go_ret
          exact Says.no (HN.out (by omega)) (Chg.refl _ _)
      · go_wp2_with fail
        refine (l1In_f _ 0 5 _ h1).mono ?_
        rintro e w' ⟨rfl, rfl⟩
        go_wp2
        go_ret
        exact Says.no (HN.out (by omega)) (Chg.refl _ _)
    · go_wp2
      go_ret
      have hk' : k = xs.length := by omega
      subst hk'
      refine Says.both ?_ (Chg.refl _ _)
      have hall := hok.out
      rw [List.take_length] at hall
      constructor
      · intro h8; exact ⟨by have := beq_iff_eq.1 h8; omega, hall⟩
      · intro h8; exact beq_iff_eq.2 (by have := h8.1; omega)
end Go.Proofs.Ytbgepefdfioljaa
