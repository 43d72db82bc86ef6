/- The reader of codes: 'pick', 'odd', 'l20Open'. -/
import Derived.Test.YtenbbkmbnpdfaaaRows
import Derived.Test.YtenbbkmbnpdfaaaB
import Derived.WalkKit
import Derived.ProofKit
import Derived.WalkLawsBesides
import Derived.WalkSpells
import Derived.Deep.QuietTactic
import Derived.BigQuiet
namespace Go.Proofs.Ytenbbkmbnpdfaaa
open Go.RowKit

/-- Block g is a reader: a code of at most 2000 bytes in blocks below g, and a place of at most N. -/
def Rdr (w : World) (g N : Nat) : Prop :=
  ∃ (A : Option Addr) (c : Nat) (bs : List Nat) (p : Nat), Blk w g 87 #[.slice A bs.length c, .int .i64 (p : Int)] ∧ p ≤ N ∧ bs.length ≤ 2000 ∧
    Rd (fun i => i < g) w A (bs.map fun (b : Nat) => Value.int .u8 (b : Int)) ∧ ∀ b ∈ bs, b < 256

theorem Rdr.chg {F : Nat → Prop} {w w' : World} {g N : Nat} (h : Rdr w g N) (hc : Chg F w w') (hf : ∀ i, i ≤ g → ¬ F i) : Rdr w' g N := by
  obtain ⟨A, c, bs, p, hb, hp, hn, hr, hx⟩ := h
  exact ⟨A, c, bs, p, hb.chg hc (hf g (Nat.le_refl _)), hp, hn, hr.chg hc fun i hi => hf i (Nat.le_of_lt hi), hx⟩
theorem Rdr.lt {w : World} {g N : Nat} (h : Rdr w g N) : g < w.heap.size := by
  obtain ⟨A, c, bs, p, hb, _⟩ := h; exact hb.lt
theorem Rdr.more {w : World} {g N M : Nat} (h : Rdr w g N) (hm : N ≤ M) : Rdr w g M := by
  obtain ⟨A, c, bs, p, hb, hp, hr⟩ := h; exact ⟨A, c, bs, p, hb, by omega, hr⟩

theorem Rdr.alloc {w : World} {g N : Nat} (h : Rdr w g N) (o : Obj) : Rdr (w.alloc o) g N := h.chg ((Chg.refl NoB w).alloc o) fun _ _ x => x
theorem Rdr.drew {w : World} {g N : Nat} (h : Rdr w g N) : Rdr w.drew g N := h.chg ((Chg.refl NoB w).drew) fun _ _ x => x
theorem Rdr.grown {w w' : World} {g N : Nat} {row : Option Nat} (h : Rdr w g N) (hg : w.grownBy w' row) (hr : ∀ k, row = some k → g < k) : Rdr w' g N :=
  h.chg ((Chg.refl (fun k => some k = row) w).grown hg (fun k hk => .inl hk.symm)) (fun i hi hk => by have := hr i hk.symm; omega)
theorem nat_of {x n : Int} (h0 : 0 ≤ x) (h : x < n) : ∃ k : Nat, x = (k : Int) ∧ (k : Int) < n := by
  obtain ⟨k, rfl⟩ := Int.eq_ofNat_of_zero_le h0
  exact ⟨k, rfl, h⟩
theorem ofInt_i64 (a : Nat) (ha : a < 9223372036854775808) : (BitVec.ofInt 64 (a : Int)).toNat = a := by
  rw [BitVec.ofInt_natCast, BitVec.toNat_ofNat]; exact Nat.mod_eq_of_lt (by omega)
theorem i64_xor_nat (a b : Nat) (ha : a < 9223372036854775808) (hb : b < 9223372036854775808) : bits .xor .i64 (a : Int) (b : Int) = ((a ^^^ b : Nat) : Int) := by
  have hx : a ^^^ b < 2 ^ 63 := Nat.xor_lt_two_pow (by omega) (by omega)
  show IntKind.i64.wrap ((BitVec.ofInt 64 (a : Int) ^^^ BitVec.ofInt 64 (b : Int)).toNat : Int) = _
  rw [BitVec.toNat_xor, ofInt_i64 a ha, ofInt_i64 b hb, IntKind.wrap_i64]
  omega
theorem xor_mod {X n : Int} (h0 : 0 ≤ X) (h1 : X ≤ 1000000000000) (hn : 1 ≤ n) : ∃ k : Nat, (bits BinOp.xor IntKind.i64 X (X / 64)).tmod n = (k : Int) ∧ (k : Int) < n := by
  obtain ⟨a, rfl⟩ := Int.eq_ofNat_of_zero_le h0
  have e : (a : Int) / 64 = ((a / 64 : Nat) : Int) := by omega
  rw [e, i64_xor_nat _ _ (by omega) (by omega), Int.tmod_eq_emod_of_nonneg (by omega)]
  exact nat_of (Int.emod_nonneg _ (by omega)) (Int.emod_lt_of_pos _ (by omega))

theorem pick_world {w : World} {g N p c : Nat} {A : Option Addr} {bs : List Nat} (hb : Blk w g 87 #[.slice A bs.length c, .int .i64 (p : Int)]) (hp : p ≤ N) (hl : bs.length ≤ 2000)
    (hr : Rd (fun i => i < g) w A (bs.map fun (b : Nat) => Value.int .u8 (b : Int))) (hx : ∀ b ∈ bs, b < 256) (m : Nat) :
    Chg (· = g) w ((w.drewN m).setCell ⟨g, 1, none⟩ (.int .i64 ((p : Int) + 1))) ∧ Rdr ((w.drewN m).setCell ⟨g, 1, none⟩ (.int .i64 ((p : Int) + 1))) g (N + 1) := by
  have hc : Chg (· = g) w ((w.drewN m).setCell ⟨g, 1, none⟩ (.int .i64 ((p : Int) + 1))) := ((Chg.refl (· = g) w).drewN m).setCell (p := ⟨g, 1, none⟩) (.inl rfl) _
  refine ⟨hc, A, c, bs, p + 1, ?_, by omega, hl, hr.chg hc (fun i hi he => by omega), hx⟩
  have hb' : Blk (w.drewN m) g 87 #[.slice A bs.length c, .int .i64 (p : Int)] := hb
  exact hb'.set_ 1 _

set_option maxRecDepth 100000 in
set_option maxHeartbeats 2000000 in
theorem pick_any (g N : Nat) (n : Int) (w : World) (h : Rdr w g N) (hN : N ≤ 1000000000) (hn0 : 1 ≤ n) (hn : n ≤ 1000000) :
    Calls Try.prog 54 #[.pointer (some ⟨g, 0, none⟩), .int .i64 n] w fun e w' =>
      ∃ k : Nat, e = .returned (.int .i64 k) ∧ (k : Int) < n ∧ Chg (· = g) w w' ∧ Rdr w' g (N + 1) := by
  obtain ⟨A, c, bs, p, hb, hp, hl, hr, hx⟩ := h
  have c0 : w.cell? ⟨g, 0, none⟩ = some (.slice A bs.length c) := by rw [hb.cell]; rfl
  have c1 : w.cell? ⟨g, 1, none⟩ = some (.int .i64 p) := by rw [hb.cell]; rfl
  have f1 : w.frozen? ⟨g, 1, none⟩ = false := hb.frozen 1
  have hp0 : (0 : Int) ≤ p := by omega
  have hp1 : (p : Int) ≤ 1000000000 := by omega
  have H := Lib.hid (pick_world hb hp hl hr hx)
  by_cases hl0 : bs.length = 0
  · have hb0 : bs = [] := List.eq_nil_of_length_eq_zero hl0
    subst hb0
    go_enter Try.func54, Try.ntmps54
    go_wp2
    go_ret
    exact ⟨0, rfl, by omega, H.out 0⟩
  have hl1 : 0 < bs.length := by omega
  have hl2 : ((bs.length : Int) == 0) = false := beq_eq_false_iff_ne.2 (by omega)
  have hl3 : ¬ ((bs.length : Int) = 0) := by omega
  by_cases hk : p < bs.length
  · obtain ⟨ad, rfl, hf, hlt, hcell⟩ := hr.at_ (k := p) (by simpa using hk)
    simp only [List.getElem_map] at hcell
    have hbl : bs[p] < 256 := hx _ (List.getElem_mem _)
    generalize bs[p] = b at hcell hbl
    have hcell2 : (w.setCell ⟨g, 1, none⟩ (.int .i64 ((p : Int) + 1))).cell? (ad.add p) = some (.int .u8 b) := by
      rw [World.cell?_setCell_other _ _ _ _ (fun e => by have := congrArg Addr.block e; rw [block_add] at this; simp at this; omega)]; exact hcell
    have hb0 : (0 : Int) ≤ b := by omega
    have hb1 : (b : Int) < 256 := by omega
    go_enter Try.func54, Try.ntmps54
    go_wp2
    go_ret
    obtain ⟨k, hk1, hk2⟩ := nat_of (x := (b : Int) % n) (n := n) (Int.emod_nonneg _ (by omega)) (Int.emod_lt_of_pos _ (by omega))
    exact ⟨k, ret_int hk1, hk2, H.out 0⟩
  · have hk1 : p % bs.length < bs.length := Nat.mod_lt _ hl1
    have hj1 : (p * 7 + 3) % bs.length < bs.length := Nat.mod_lt _ hl1
    obtain ⟨ad, rfl, hf, hlt, hcell⟩ := hr.at_ (k := p % bs.length) (by simpa using hk1)
    obtain ⟨ad', he, hf', hlt', hcell'⟩ := hr.at_ (k := (p * 7 + 3) % bs.length) (by simpa using hj1)
    obtain rfl : ad = ad' := by injection he
    simp only [List.getElem_map] at hcell hcell'
    have hbl : bs[p % bs.length] < 256 := hx _ (List.getElem_mem _)
    have hbl' : bs[(p * 7 + 3) % bs.length] < 256 := hx _ (List.getElem_mem _)
    generalize bs[p % bs.length] = b at hcell hbl
    generalize bs[(p * 7 + 3) % bs.length] = b' at hcell' hbl'
    have g1 : (w.setCell ⟨g, 1, none⟩ (.int .i64 ((p : Int) + 1))).cell? (ad.add (p % bs.length)) = some (.int .u8 b) := by
      rw [World.cell?_setCell_other _ _ _ _ (fun e => by have := congrArg Addr.block e; rw [block_add] at this; simp at this; omega)]; exact hcell
    have g2 : (w.setCell ⟨g, 1, none⟩ (.int .i64 ((p : Int) + 1))).cell? (ad.add ((p * 7 + 3) % bs.length)) = some (.int .u8 b') := by
      rw [World.cell?_setCell_other _ _ _ _ (fun e => by have := congrArg Addr.block e; rw [block_add] at this; simp at this; omega)]; exact hcell'
    have q0 : (0 : Int) ≤ (p : Int) % (bs.length : Int) := Int.emod_nonneg _ (by omega)
    have q1 : (p : Int) % (bs.length : Int) < (bs.length : Int) := Int.emod_lt_of_pos _ (by omega)
    have r0 : (0 : Int) ≤ ((p : Int) * 7 + 3) % (bs.length : Int) := Int.emod_nonneg _ (by omega)
    have r1 : ((p : Int) * 7 + 3) % (bs.length : Int) < (bs.length : Int) := Int.emod_lt_of_pos _ (by omega)
    have d0 : (0 : Int) ≤ (p : Int) / (bs.length : Int) := Int.ediv_nonneg hp0 (by omega)
    have d1 : (p : Int) / (bs.length : Int) ≤ 1000000000 := by have := Int.ediv_le_self (bs.length : Int) hp0; omega
    have hb0 : (0 : Int) ≤ b := by omega
    have hb1 : (b : Int) < 256 := by omega
    have hb0' : (0 : Int) ≤ b' := by omega
    have hb1' : (b' : Int) < 256 := by omega
    clear hcell hcell' he hx hr hb hk1 hj1 hbl hbl'
    go_enter Try.func54, Try.ntmps54
    go_wp2
    go_quiet (fail)
    generalize hq : (p : Int) / (bs.length : Int) = q at *
    have hX0 : (0 : Int) ≤ b * 131 + b' * 1117 + p * 29 + q * 53 := by omega
    have hX1 : (b : Int) * 131 + b' * 1117 + p * 29 + q * 53 ≤ 1000000000000 := by omega
    have HX := Lib.hid (xor_mod hX0 hX1 hn0)
    clear hX0 hX1
    go_wp2
    go_ret
    obtain ⟨k, hk1, hk2⟩ := HX.out
    exact ⟨k, ret_int hk1, hk2, (H.out 0).1.drewN _, (H.out 0).2⟩
end Go.Proofs.Ytenbbkmbnpdfaaa
