/- copy, onto the head of a block that is known whole. -/
import Derived.Test.YtbgepefdfioljaaO
import Derived.Laws.CopyRow
namespace Go.Proofs.Ytbgepefdfioljaa
open Go.RowKit
section
variable {P : Program}
theorem run_copy_blk {F : Nat → Prop} {w : World} (dT sT ty elem : TypeId) (g dLen dCap : Nat) (A : Option Addr) (sLen sCap : Nat) (cur : List Value) (t : TypeId) (cs : List Value)
    (hu : P.underlying dT = some (.slice elem)) (hs : (P.info? elem).map (·.size) = some 1) (hb : Blk w g t cur.toArray) (hn : cs.length = Nat.min sLen dLen) (h0 : 0 < cs.length) (hr : Rd F w A cs)
    (hfit : cs.length ≤ cur.length) (h1 : ∀ v ∈ cs, v.oneCell' = true) :
    ∃ w', (Builtin.copy_ #[dT, sT] ty #[.slice (some ⟨g, 0, none⟩) dLen dCap, .slice A sLen sCap]).run P w = .ok (goInt cs.length) w' ∧ Chg (· = g) w w' ∧ Blk w' g t (cs ++ cur.drop cs.length).toArray := by
  obtain ⟨ad, rfl, _⟩ := hr.at_ h0
  have hrun := run_copy_row (P := P) w dT sT ty elem g 0 dLen dCap ad sLen sCap cur.toArray t cs hu hs hb hn (fun j v hj => by
    obtain ⟨ad', e, _, hc⟩ := hr j v hj
    cases e
    exact hc) (by simpa using hfit) h1
  refine ⟨_, hrun, ⟨rfl, rfl, rfl, by simp [World.setRow], fun k _ hk => setRow_other w g k _ hk⟩, ?_⟩
  have h2 := setRow_heap w g cur.toArray (cs ++ cur.drop cs.length).toArray t _ hb
  unfold Blk
  simpa using h2
theorem exec_copy {o : Oper} {a : Act} {w w' : World} {v v' u : Value} (s x : Operand) (t : TypeId) (ho : o.op = .call { callee := .builtin .copy, args := #[s, x], argTypes := #[t, t] })
    (hs : a.eval s = v) (hx : a.eval x = u) (hr : (Builtin.copy_ #[t, t] o.type #[v, u]).run P w = .ok v' w') : (execOp a.eval o).run P w = .ok (.value v') w' := by
  unfold execOp
  simp only [ho, resolve, invoke, builtin, Sem.run_bind, Sem.run_pure, Result.andThen_ok, List.map_toArray, List.map_cons, List.map_nil, hs, hx, hr]
theorem wpList_copy_blk {F : Nat → Prop} {w : World} {ops : Array Oper} {rest : List Oper} {o : Oper} {a : Act} {Q : Exit → Act → World → Prop} (hgd : o.guard = none) (d s : Operand) (t' : TypeId)
    (ho : o.op = .call { callee := .builtin .copy, args := #[d, s], argTypes := #[t', t'] }) (elem : TypeId) (hu : P.underlying t' = some (.slice elem)) (hsz : (P.info? elem).map (·.size) = some 1)
    (g dLen dCap : Nat) (A : Option Addr) (sLen sCap : Nat) (hd : a.eval d = .slice (some ⟨g, 0, none⟩) dLen dCap) (hs : a.eval s = .slice A sLen sCap) (cur : List Value) (t : TypeId) (hb : Blk w g t cur.toArray)
    (cs : List Value) (hn : cs.length = Nat.min sLen dLen) (h0 : 0 < cs.length) (hr : Rd F w A cs) (hfit : cs.length ≤ cur.length) (h1 : ∀ v ∈ cs, v.oneCell' = true)
    (h : ∀ w', Chg (· = g) w w' → Blk w' g t (cs ++ cur.drop cs.length).toArray → wpList P ops Q rest (a.put o.dst (goInt cs.length)) w') : wpList P ops Q (o :: rest) a w :=
  wpList_plain hgd fun K hK => by
    obtain ⟨w', hr, h2, h3⟩ := run_copy_blk (P := P) t' t' o.type elem g dLen dCap A sLen sCap cur t cs hu hsz hb hn h0 hr hfit h1
    have hex := exec_copy (P := P) (o := o) (a := a) d s t' ho hd hs hr
    unfold Oper.wp
    rw [hex]
    exact hK _ _ (h w' h2 h3)
end
end Go.Proofs.Ytbgepefdfioljaa
