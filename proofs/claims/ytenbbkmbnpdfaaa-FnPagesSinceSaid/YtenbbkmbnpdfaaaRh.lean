/- Facts of a drawn region's operations, and how each kind of operation leaves its own. -/
import Derived.Test.YtenbbkmbnpdfaaaRg
import Derived.Test.YtenbbkmbnpdfaaaD
import Derived.Test.YtenbbkmbnpdfaaaO
namespace Go.Proofs.Ytenbbkmbnpdfaaa
open Go.RowKit

abbrev isPtr (g : Nat) : Value → World → Prop := fun v _ => v = .pointer (some ⟨g, 0, none⟩)
abbrev isNat (n : Nat) : Value → World → Prop := fun v _ => ∃ k : Nat, v = .int .i64 k ∧ k < n
abbrev isInt : Value → World → Prop := fun v _ => ∃ x : Int, v = .int .i64 x
/-- A new slice of n cells; C: of what it holds. -/
abbrev isLit (g : Nat) (t : TypeId) (n : Nat) (C : Array Value → Prop) : Value → World → Prop := fun v w => ∃ b cs, v = .slice (some ⟨b, 0, none⟩) n n ∧ b ≠ g ∧ Blk w b t cs ∧ C cs
abbrev isLitAt (g : Nat) (t : TypeId) (n : Nat) (C : Array Value → Prop) : Value → World → Prop := fun v w => ∃ b cs k, v = .pointer (some ⟨b, k, none⟩) ∧ b ≠ g ∧ Blk w b t cs ∧ C cs ∧ k < n
def natCells (n b : Nat) (cs : Array Value) : Prop := cs.size = n ∧ ∀ v ∈ cs, ∃ x : Int, v = .int .i64 x ∧ 0 ≤ x ∧ x < b
def intCells (n : Nat) (cs : Array Value) : Prop := cs.size = n ∧ ∀ v ∈ cs, ∃ x : Int, v = .int .i64 x
/-- The reader's fact over a drawn region: c operations are done. -/
def RdInv (g N : Nat) (c : Nat) (_m : Nat → Option Value) (w : World) : Prop := Rdr w g (N + c)

/-- A block without bytes is no part of a code. -/
theorem Rdr.chgBox {w w' : World} {g N H : Nat} {T : TypeId} {z : Array Value} (h : Rdr w g N) (hc : Chg (· = H) w w') (hH : H ≠ g) (hb : Blk w H T z) (hz : ∀ v ∈ z, ∀ b : Int, v ≠ .int .u8 b) : Rdr w' g N := by
  obtain ⟨A, c, bs, p, hbl, hp, hn, hr, hx⟩ := h
  refine ⟨A, c, bs, p, hbl.chg hc (fun e => hH e.symm), hp, hn, fun k v hk => ?_, hx⟩
  obtain ⟨ad, e, hf, hcell⟩ := hr k v hk
  refine ⟨ad, e, hf, hc.cell hcell fun he => ?_⟩
  have hs := World.cell?_spot hcell
  rw [block_add] at he
  obtain ⟨q, hq⟩ : ∃ q, ad.add k = ⟨H, q, none⟩ := by
    refine ⟨(ad.add k).off, ?_⟩
    have hbk : (ad.add k).block = H := by rw [block_add]; exact he
    cases hh : ad.add k with
    | mk b o sp =>
      rw [hh] at hs hbk
      simp only at hs hbk
      rw [hs, hbk]
  rw [hq, hb.cell] at hcell
  have hv : ∃ b : Int, v = .int .u8 b := by
    rw [List.getElem?_map] at hk
    cases hb' : bs[k]? with
    | none => rw [hb'] at hk; cases hk
    | some b => rw [hb'] at hk; simp at hk; exact ⟨b, hk.symm⟩
  obtain ⟨b, rfl⟩ := hv
  exact hz _ (Array.mem_of_getElem? hcell) b rfl
section
variable {P : Program} {o : Oper} {a : Act} {w w' : World} {Q : Exit → Act → World → Prop} {WInv : Nat → (Nat → Option Value) → World → Prop} {R : World → World → Prop} {Post : Nat → Value → World → Prop} {c i : Nat} {m : Nat → Option Value} {dst : Option Tmp}
theorem rg_val {v : Value} (hr : (execOp a.eval o).run P w = .ok (.value v) w') (hd : o.dst = dst) (hw : WInv (c + 1) (upd m i v) w') (hR : R w w') (hp : Post i v w') : Oper.wp P o a w (Aft WInv R Post c m i dst a w) Q := by
  unfold Oper.wp
  rw [hr]
  exact ⟨v, by rw [hd], hw, hR, hp⟩
theorem rg_skip (hr : (execOp a.eval o).run P w = .ok .skip w') (hd : o.dst = dst) (hw : WInv (c + 1) (upd m i undef) w') (hR : R w w') (hp : Post i undef w') : Oper.wp P o a w (Aft WInv R Post c m i dst a w) Q := by
  unfold Oper.wp
  rw [hr]
  exact ⟨undef, by rw [hd], hw, hR, hp⟩
theorem rg_call {f : FuncId} {args : Array Value} (hr : (execOp a.eval o).run P w = .ok (.enter f args) w) (hd : o.dst = dst)
    (h : Calls P f args w fun e w' => ∃ v, e = .returned v ∧ WInv (c + 1) (upd m i v) w' ∧ R w w' ∧ Post i v w') : Oper.wp P o a w (Aft WInv R Post c m i dst a w) Q := by
  unfold Oper.wp
  rw [hr]
  refine Calls.mono h ?_
  rintro e w'' ⟨v, rfl, hw, hR, hp⟩
  exact ⟨v, by rw [hd], hw, hR, hp⟩
end
end Go.Proofs.Ytenbbkmbnpdfaaa
