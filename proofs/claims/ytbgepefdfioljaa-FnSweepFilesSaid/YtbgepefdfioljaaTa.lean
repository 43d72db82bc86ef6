/- Tables that a call has built; the laws' helpers on tables. -/
import Derived.Test.YtbgepefdfioljaaT
import Derived.Test.YtbgepefdfioljaaIm
namespace Go.Proofs.Ytbgepefdfioljaa
open Go.RowKit

/-- A list of a table: its block, its room, its numbers. -/
structure RowO where
  g : Nat
  c : Nat
  xs : List Int
  rest : List Value
def RowO.cell (r : RowO) : Value := .slice (some ⟨r.g, 0, none⟩) r.xs.length r.c
def RowO.ok (B E : Nat) (w : World) (r : RowO) : Prop := B ≤ r.g ∧ r.g < E ∧ Blk w r.g 3 (icells r.xs ++ r.rest).toArray ∧ r.xs.length ≤ r.c
def RowsO (B E : Nat) (w : World) (T : List RowO) : Prop := (∀ r ∈ T, r.ok B E w) ∧ (T.map (·.g)).Nodup
def listsOf (T : List RowO) : List (List Int) := T.map (·.xs)
def TabO (B E : Nat) (w : World) (A : Option Addr) (c : Nat) (T : List RowO) : Prop := OwnS B E w 22 A T.length c (T.map RowO.cell) ∧ RowsO B E w T
theorem ty_ne : (3 : Nat) ≠ 22 := by decide
theorem Blk.ty {w : World} {g : Nat} {t t' : TypeId} {cs cs' : Array Value} (h : Blk w g t cs) (h' : Blk w g t' cs') : t = t' := by
  unfold Blk at h h'
  rw [h] at h'
  injection h' with h'
  injection h'
section
variable {F : Nat → Prop} {w w' : World} {B E B' E' : Nat} {T : List RowO} {A : Option Addr} {c : Nat}
theorem RowO.ok.chg {r : RowO} (h : r.ok B E w) (hc : Chg F w w') (hf : ¬ F r.g) : r.ok B E w' := ⟨h.1, h.2.1, h.2.2.1.chg hc hf, h.2.2.2⟩
theorem RowsO.nil (B E : Nat) (w : World) : RowsO B E w [] := ⟨fun _ h => absurd h (by simp), List.nodup_nil⟩
theorem RowsO.chg (h : RowsO B E w T) (hc : Chg F w w') (hf : ∀ i, B ≤ i → i < E → ¬ F i) : RowsO B E w' T := ⟨fun r hr => (h.1 r hr).chg hc (hf _ (h.1 r hr).1 (h.1 r hr).2.1), h.2⟩
theorem RowsO.new (h : RowsO B E w T) (hc : Chg NoB w w') : RowsO B E w' T := h.chg hc fun _ _ _ x => x
theorem RowsO.more (h : RowsO B E w T) (hB : B' ≤ B) (hE : E ≤ E') : RowsO B' E' w T := ⟨fun r hr => by obtain ⟨h1, h2, h3⟩ := h.1 r hr; exact ⟨Nat.le_trans hB h1, Nat.lt_of_lt_of_le h2 hE, h3⟩, h.2⟩
theorem RowsO.snoc (h : RowsO B E w T) {r : RowO} (hr : r.ok B E' w) (hE : E ≤ r.g) : RowsO B E' w (T ++ [r]) := by
  refine ⟨fun q hq => ?_, ?_⟩
  · rcases List.mem_append.1 hq with h1 | h1
    · obtain ⟨a, b, d⟩ := h.1 q h1
      exact ⟨a, Nat.lt_of_lt_of_le b (Nat.le_trans hE (Nat.le_of_lt hr.2.1)), d⟩
    · simp at h1; subst h1; exact hr
  · rw [List.map_append, List.nodup_append]
    refine ⟨h.2, by simp, fun a ha b hb => ?_⟩
    simp at hb
    obtain ⟨q, hq, rfl⟩ := List.mem_map.1 ha
    have := (h.1 q hq).2.1
    omega
theorem TabO.chg (h : TabO B E w A c T) (hc : Chg F w w') (hf : ∀ i, B ≤ i → i < E → ¬ F i) : TabO B E w' A c T := ⟨h.1.chg hc hf, h.2.chg hc hf⟩
theorem TabO.new (h : TabO B E w A c T) (hc : Chg NoB w w') : TabO B E w' A c T := h.chg hc fun _ _ _ x => x
theorem TabO.more (h : TabO B E w A c T) (hB : B' ≤ B) (hE : E ≤ E') : TabO B' E' w A c T := ⟨h.1.more hB hE, h.2.more hB hE⟩
theorem RowO.ok.rd {r : RowO} (h : r.ok B E w) : Rd (fun i => B ≤ i ∧ i < E) w (some ⟨r.g, 0, none⟩) (icells r.xs) := fun k v hk => by
  have h1 := (h.2.2.1.rd) k v (by rw [List.getElem?_append_left (List.getElem?_eq_some_iff.1 hk).1]; exact hk)
  obtain ⟨ad, e, hf, hc⟩ := h1
  refine ⟨ad, e, ?_, hc⟩
  rw [hf]
  exact ⟨h.1, h.2.1⟩
theorem TabO.reads (h : TabO B E w A c T) : TabR (fun i => B ≤ i ∧ i < E) w A (listsOf T) := fun k hk => by
  have hk' : k < T.length := by simpa [listsOf] using hk
  obtain ⟨ad, e, hf, _, hc⟩ := h.1.rd.at_ (k := k) (by simpa using hk')
  rw [List.getElem_map] at hc
  have hok := h.2.1 T[k] (List.getElem_mem hk')
  have e1 : (listsOf T)[k] = T[k].xs := by simp [listsOf]
  refine ⟨ad, some ⟨T[k].g, 0, none⟩, T[k].c, e, hf, ?_, ?_, ?_⟩
  · rw [e1]; exact hc
  · rw [e1]; exact hok.rd
  · rw [e1]; exact hok.2.2.2
theorem TabO.nil (B E : Nat) (w : World) (A : Option Addr) (c : Nat) : TabO B E w A c [] := ⟨OwnS.empty _ _ _ _ _ _, RowsO.nil _ _ _⟩
end
theorem listsOf_length (T : List RowO) : (listsOf T).length = T.length := by simp [listsOf]

/-- What is left of a number behind so many elements; -1 if that is less than none. -/
def szOf (left : Int) (n : Nat) : Int := if left < (n : Int) then -1 else left - (n : Int)
theorem szIntS_g (A : Option Addr) (n c : Nat) (left : Int) (w : World) (hn : n ≤ maxLen) (h0 : 0 ≤ left) (h1 : left ≤ 1048576) :
    Calls Try.prog 63 #[.slice A n c, .int .i64 left] w fun e w' => e = .returned (.int .i64 (szOf left n)) ∧ w = w' := by
  unfold maxLen at hn
  unfold szOf
  by_cases h : left < (n : Int)
  · rw [if_pos h]
    go_enter Try.func63, Try.ntmps63
    go_wp2
    go_ret
    exact ⟨rfl, rfl⟩
  · rw [if_neg h]
    go_enter Try.func63, Try.ntmps63
    go_wp2
    go_ret
    exact ⟨rfl, rfl⟩
def lensTo (X : List (List Int)) (k : Nat) : Nat := X.length + ((X.take k).map List.length).sum
def total (X : List (List Int)) : Nat := X.length + (X.map List.length).sum
theorem lensTo_succ (X : List (List Int)) (k : Nat) (h : k < X.length) : lensTo X (k + 1) = lensTo X k + X[k].length := by
  unfold lensTo; rw [List.take_succ_eq_append_getElem h, List.map_append, List.sum_append]; simp; omega
theorem lensTo_le (X : List (List Int)) (k : Nat) : lensTo X k ≤ total X := by
  unfold lensTo total
  have : (X.map List.length).sum = ((X.take k).map List.length).sum + ((X.drop k).map List.length).sum := by
    rw [← List.sum_append, ← List.map_append, List.take_append_drop]
  omega
theorem lensTo_full (X : List (List Int)) : lensTo X X.length = total X := by unfold lensTo total; rw [List.take_length]
theorem total_row (X : List (List Int)) (k : Nat) (h : k < X.length) : X[k].length ≤ total X := by
  have := lensTo_succ X k h
  have := lensTo_le X (k + 1)
  omega

set_option maxRecDepth 100000 in
set_option maxHeartbeats 1000000 in
theorem szIntSS_g (F : Nat → Prop) (A : Option Addr) (c : Nat) (X : List (List Int)) (left : Int) (w : World) (h : TabR F w A X) (hX : ∀ r ∈ X, r.length ≤ maxLen) (hn : X.length ≤ maxLen) (h0 : 0 ≤ left) (h1 : left ≤ 1048576) :
    Calls Try.prog 56 #[.slice A X.length c, .int .i64 left] w fun e w' => e = .returned (.int .i64 (szOf left (total X))) ∧ w = w' := by
  have hn' := hn
  unfold maxLen at hn'
  by_cases hlt : left < (X.length : Int)
  · have hs : szOf left (total X) = -1 := by unfold szOf total; rw [if_pos (by omega)]
    rw [hs]
    go_enter Try.func56, Try.ntmps56
    go_wp2
    go_ret
    exact ⟨rfl, rfl⟩
  go_enter Try.func56, Try.ntmps56
  go_wp2
  go_loop [1, 5] (fun v i => ∃ k : Nat, k ≤ X.length ∧ i = .int .i64 k ∧ v = .int .i64 (left - (lensTo X k : Nat)) ∧ Hid ((lensTo X k : Int) ≤ left)) (fun _ i => X.length - (intOf i).toNat)
  case atStart => exact ⟨0, Nat.zero_le _, rfl, by simp [lensTo], Lib.hid (by simp [lensTo]; omega)⟩
  case round =>
    obtain ⟨k, hk, rfl, rfl, hle⟩ := hrel
    by_cases hk1 : k < X.length
    · obtain ⟨ad, B, c', rfl, hf, hcell, hr, hc1⟩ := h k hk1
      have hlen := hX _ (List.getElem_mem hk1)
      have HL := Lib.hid (lensTo_succ X k hk1)
      have hle' := hle.out
      go_wp2_with fail
      refine (szIntS_g B X[k].length c' _ _ hlen (by omega) (by omega)).mono ?_
      rintro e w' ⟨rfl, rfl⟩
      by_cases hneg : left - (lensTo X k : Nat) < (X[k].length : Int)
      · have hs : szOf (left - (lensTo X k : Nat)) X[k].length = -1 := by unfold szOf; rw [if_pos hneg]
        rw [hs]
        have hs2 : szOf left (total X) = -1 := by have := lensTo_le X (k + 1); have := HL.out; unfold szOf; rw [if_pos (by omega)]
        have HS := Lib.hid hs2
        clear hs hs2
        go_wp2
        go_ret
        exact ⟨ret_int HS.out.symm, rfl⟩
      · have hs : szOf (left - (lensTo X k : Nat)) X[k].length = left - (lensTo X (k + 1) : Nat) := by have := HL.out; unfold szOf; rw [if_neg hneg]; omega
        rw [hs]
        have hle2 : (lensTo X (k + 1) : Int) ≤ left := by have := HL.out; omega
        have hnn : ¬ (left - (lensTo X (k + 1) : Nat) < 0) := by omega
        go_wp2
        go_round
        case rel => exact ⟨k + 1, by omega, by go_num, rfl, Lib.hid hle2⟩
        case measure => simp [intOf]; omega
    · have hk' : k = X.length := by omega
      subst hk'
      have HT := Lib.hid (lensTo_full X)
      have hle' := hle.out
      go_wp2
      go_ret
      rw [HT.out] at hle'
      exact ⟨ret_int (by unfold szOf; rw [if_neg (by omega)]; first | rfl | rw [HT.out]), rfl⟩
theorem szTable_g (F : Nat → Prop) (A : Option Addr) (c : Nat) (X : List (List Int)) (left : Int) (w : World) (h : TabR F w A X) (hX : ∀ r ∈ X, r.length ≤ maxLen) (hn : X.length ≤ maxLen) (h0 : 0 ≤ left) (h1 : left ≤ 1048576) :
    Calls Try.prog 19 #[.agg #[.slice A X.length c], .int .i64 left] w fun e w' => e = .returned (.int .i64 (szOf left (total X))) ∧ Chg NoB w w' := by
  have HC := Lib.hid ((Chg.refl NoB w).alloc (.cells #[.slice A X.length c] 34))
  have h' := h.lt.new HC.out
  go_enter Try.func19, Try.ntmps19
  go_wp2_with fail
  refine (szIntSS_g _ A c X left _ h' hX hn h0 h1).mono ?_
  rintro e w' ⟨rfl, rfl⟩
  by_cases hlt : szOf left (total X) < 0
  · have hs : szOf left (total X) = -1 := by unfold szOf at hlt ⊢; split <;> omega
    have HS := Lib.hid hs
    clear hs
    go_wp2
    go_ret
    exact ⟨ret_int HS.out.symm, HC.out⟩
  · go_wp2
    go_ret
    exact ⟨rfl, HC.out⟩
end Go.Proofs.Ytbgepefdfioljaa
