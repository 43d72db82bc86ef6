/- Marks on links, and what holds them; copies of links. -/
import Derived.Test.YtbgepefdfioljaaKa
import Derived.Lib.Hide
import Derived.Maps.AppendAt
namespace Go.Proofs.Ytbgepefdfioljaa
open Go.RowKit

def marksL (n : Nat) (k : Int) : List Lk := (List.range n).map fun (i : Nat) => (⟨k + 2 * (i : Int), k + 2 * (i : Int) + 1⟩ : Lk)
theorem marksL_len (n : Nat) (k : Int) : (marksL n k).length = n := by simp [marksL]
theorem marksL_succ (n : Nat) (k : Int) : lcells (marksL (n + 1) k) = lcells (marksL n k) ++ [.int .i64 (k + 2 * (n : Int)), .int .i64 (k + 2 * (n : Int) + 1)] := by
  unfold marksL lcells; rw [List.range_succ, List.map_append, List.flatMap_append]; rfl
theorem marksL_get (n : Nat) (k : Int) (i : Nat) (h : i < (marksL n k).length) : (marksL n k)[i] = ⟨k + 2 * (i : Int), k + 2 * (i : Int) + 1⟩ := by
  simp [marksL]
theorem lcells_drop (xs : List Lk) (k : Nat) (h : k < xs.length) : lcells (xs.drop k) = .int .i64 xs[k].names :: .int .i64 xs[k].opens :: lcells (xs.drop (k + 1)) := by
  rw [List.drop_eq_getElem_cons h]; rfl

set_option maxRecDepth 100000 in
set_option maxHeartbeats 1000000 in
theorem markLinksS_any (B E : Nat) (A : Option Addr) (c : Nat) (xs : List Lk) (k0 : Int) (w : World) (h : OwnS B E w 64 A xs.length c (lcells xs)) (hl : xs.length ≤ 1048576) (hk0 : 0 ≤ k0) (hk1 : k0 ≤ 1000000000000) :
    Calls Try.prog 49 #[.slice A xs.length c, .int .i64 k0] w fun e w' => e = .returned (.int .i64 (k0 + 2 * (xs.length : Int))) ∧ Chg (fun i => B ≤ i ∧ i < E) w w' ∧ OwnS B E w' 64 A xs.length c (lcells (marksL xs.length k0)) := by
  obtain ⟨hn, h⟩ := h
  rcases h with ⟨h0, h1⟩ | ⟨g, rest, rfl, hg, hgE, hb⟩
  · have hx : xs = [] := List.eq_nil_of_length_eq_zero h0
    subst hx
    go_enter Try.func49, Try.ntmps49
    go_wp2
    refine wp_loop_rounds 1 ?_
    rw [rounds_succ]
    go_wp2
    go_ret
    exact ⟨ret_int (by simp), Chg.refl _ _, OwnS.empty _ _ _ _ _ _⟩
  · go_enter Try.func49, Try.ntmps49
    go_wp2
    go_loopw [1, 5] (fun v i wr => ∃ k : Nat, k ≤ xs.length ∧ i = .int .i64 k ∧ v = .int .i64 (k0 + 2 * (k : Int)) ∧ Chg (fun i => B ≤ i ∧ i < E) w wr ∧ Blk wr g 64 (lcells (marksL k k0) ++ (lcells (xs.drop k) ++ rest)).toArray) (fun _ i _ => xs.length - (intOf i).toNat)
    case atStart => exact ⟨0, Nat.zero_le _, rfl, by simp, Chg.refl _ _, hb⟩
    case round =>
      obtain ⟨k, hk, rfl, rfl, hch, hb⟩ := hrel
      have HC := Lib.hid hch
      by_cases hlt : k < xs.length
      · rw [lcells_drop xs k hlt] at hb
        have hlen : (lcells (marksL k k0)).length = k * 2 := by rw [lcells_len, marksL_len]
        have hroom := hb.room hlen
        have hroom2 := Blk.roomAt (B := [.int .i64 xs[k].names]) (j := 1) hb hlen rfl
        have hfr := hb.frozen (k * 2)
        have hfr2 := hb.frozen (k * 2 + 1)
        have HF := Lib.hid (hb.fill2 hlen (.int .i64 (k0 + 2 * (k : Int))) (.int .i64 (k0 + 2 * (k : Int) + 1)))
        have HS := Lib.hid (marksL_succ k k0)
        have hk8 : (k : Int) ≤ 1048576 := by omega
        clear hb hch hlen
        go_wp2
        go_roundw
        case rel =>
          refine ⟨k + 1, by omega, by go_num, congrArg (Value.int .i64) (by omega), (HC.out.setCell (p := ⟨g, k * 2, none⟩) (.inl ⟨hg, hgE⟩) _).setCell (p := ⟨g, k * 2 + 1, none⟩) (.inl ⟨hg, hgE⟩) _, ?_⟩
          rw [HS.out, List.append_assoc]
          exact HF.out
        case measure => simp [intOf]; omega
      · have hk' : k = xs.length := by omega
        subst hk'
        have HB := Lib.hid hb
        clear hb hch
        go_wp2
        go_ret
        refine ⟨rfl, HC.out, hn, .inr ⟨g, rest, rfl, hg, hgE, ?_⟩⟩
        have := HB.out
        rwa [List.drop_length] at this
end Go.Proofs.Ytbgepefdfioljaa
