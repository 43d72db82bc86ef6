/- 'x.f = append(x.f, append([]T{}, src...))' as a drawn region: what holds while its operations come up. -/
import Derived.Test.YtbgepefdfioljaaRa
namespace Go.Proofs.Ytbgepefdfioljaa
open Go.RowKit
/-- V: the variable's block, of type T, its one cell the slice u of n elements of type e that the call owns from block H0 on; B: the heap's size as the region begins. The operations: lI loads u, rI makes the row, bI lays its header into a block, aI appends it, sI stores. -/
structure NestI (w0 wo : World) (T e : TypeId) (V H0 B : Nat) (u : Value) (n : Nat) (xs : List Value) (lI rI bI aI sI : Nat) (m : Nat → Option Value) (w : World) : Prop where
  chg0 : Chg NoB w0 w
  chg : Chg (fun k => k = V ∨ some k = u.ownBlock) wo w
  app : AppI H0 e 1 u n xs aI (fun m news => ∃ rv, m rI = some rv ∧ news = [rv]) m w
  var : StI V T #[u] sI aI m w
  back1 : m aI ≠ none → m lI ≠ none
  back2 : m sI ≠ none → m aI ≠ none
  elem : ∀ v, m bI = some v → ∃ rv b, m rI = some rv ∧ v = .slice (some ⟨b, 0, none⟩) 1 1 ∧ B ≤ b ∧ Blk w b e #[rv] ∧ rv.oneCell' = true
section
variable {w0 wo w w' : World} {T e : TypeId} {V H0 B : Nat} {u : Value} {n : Nat} {xs : List Value} {lI rI bI aI sI i : Nat} {m : Nat → Option Value} {v : Value}
theorem NestI.start (h0 : Chg NoB w0 w) (h : Chg NoB wo w) (ho : w.ownsRow H0 e 1 u n xs) (hb : Blk w V T #[u]) : NestI w0 wo T e V H0 B u n xs lI rI bI aI sI (fun _ => none) w :=
  ⟨h0, h.mono fun _ _ x => x.elim, AppI.start ho, .inl ⟨rfl, hb⟩, fun h => absurd rfl h, fun h => absurd rfl h, fun v hv => by cases hv⟩
theorem NestI.keep (h : NestI w0 wo T e V H0 B u n xs lI rI bI aI sI m w) (hm : m i = none) (h1 : i ≠ bI) (h2 : i ≠ aI) (h3 : i ≠ sI) (hc : Chg NoB w w') : NestI w0 wo T e V H0 B u n xs lI rI bI aI sI (upd m i v) w' := by
  refine ⟨h.chg0.trans hc, h.chg.trans' hc (fun _ x => x.elim), h.app.keep h2 ?_ hc (fun _ _ _ _ x => x), h.var.keep h3 hm hc (fun x => x), ?_, ?_, ?_⟩
  · rintro news ⟨rv, hr, hn⟩
    exact ⟨rv, by rw [upd_ne (fun e => by rw [e, hm] at hr; cases hr)]; exact hr, hn⟩
  · rw [upd_ne (Ne.symm h2)]
    intro hh
    by_cases he : lI = i
    · rw [he, upd_same]; simp
    · rw [upd_ne he]; exact h.back1 hh
  · rw [upd_ne (Ne.symm h3), upd_ne (Ne.symm h2)]; exact h.back2
  · rw [upd_ne (Ne.symm h1)]
    intro v' hv'
    obtain ⟨rv, b, a1, a2, a3, a4, a5⟩ := h.elem v' hv'
    exact ⟨rv, b, by rw [upd_ne (fun e => by rw [e, hm] at a1; cases a1)]; exact a1, a2, a3, a4.chg hc (fun x => x), a5⟩
/-- The header is laid. -/
theorem NestI.lay (h : NestI w0 wo T e V H0 B u n xs lI rI bI aI sI m w) {rv : Value} {b : Nat} (hr : m rI = some rv) (h0 : rI ≠ bI) (h1 : bI ≠ aI) (h2 : bI ≠ sI) (h3 : lI ≠ bI) (hm : m bI = none) (hc : Chg NoB w w') (hB : B ≤ b) (hb : Blk w' b e #[rv]) (h1c : rv.oneCell' = true) :
    NestI w0 wo T e V H0 B u n xs lI rI bI aI sI (upd m bI (.slice (some ⟨b, 0, none⟩) 1 1)) w' := by
  refine ⟨h.chg0.trans hc, h.chg.trans' hc (fun _ x => x.elim), h.app.keep h1 ?_ hc (fun _ _ _ _ x => x), h.var.keep h2 hm hc (fun x => x), ?_, ?_, ?_⟩
  · rintro news ⟨rv', hr', hn⟩
    exact ⟨rv', by rw [upd_ne h0]; exact hr', hn⟩
  · rw [upd_ne (Ne.symm h1), upd_ne h3]; exact h.back1
  · rw [upd_ne (Ne.symm h2), upd_ne (Ne.symm h1)]; exact h.back2
  · intro v' hv'
    rw [upd_same] at hv'
    cases hv'
    exact ⟨rv, b, by rw [upd_ne h0]; exact hr, rfl, hB, hb, h1c⟩
/-- The header is appended. -/
theorem NestI.append (h : NestI w0 wo T e V H0 B u n xs lI rI bI aI sI m w) (hma : m aI = none) {rv v' : Value} (hr : m rI = some rv) (hl : m lI ≠ none) (h0 : rI ≠ aI) (h1 : aI ≠ sI) (h3 : lI ≠ aI) (h4 : bI ≠ aI) (hT : e ≠ T) (hV : w0.heap.size ≤ H0) (hu : ∀ k, some k = u.ownBlock → k < B)
    (hg : w.grownBy w' u.ownBlock) (ho : w'.ownsRow H0 e 1 v' (n + 1) (xs ++ [rv])) : NestI w0 wo T e V H0 B u n xs lI rI bI aI sI (upd m aI v') w' := by
  have hou := h.app.1 hma
  have hms : m sI = none := by
    cases hh : m sI with
    | none => rfl
    | some x => exact absurd hma (h.back2 (by rw [hh]; simp))
  have hb := h.var.ready hms
  have hc := chg_row hg
  refine ⟨chg_grown hou hg h.chg0 hV, h.chg.trans (hc.mono fun k _ hk => .inr hk), AppI.done [rv] ⟨rv, by rw [upd_ne h0]; exact hr, rfl⟩ ho, .inl ⟨by rw [upd_ne (Ne.symm h1)]; exact hms, hb.chg hc (own_ne_box hou hb hT)⟩, ?_, ?_, ?_⟩
  · intro _; rw [upd_ne h3]; exact hl
  · rw [upd_ne (Ne.symm h1)]; intro hh; exact absurd hms hh
  · rw [upd_ne h4]
    intro w1 hw1
    obtain ⟨rv1, b, a1, a2, a3, a4, a5⟩ := h.elem w1 hw1
    exact ⟨rv1, b, by rw [upd_ne h0]; exact a1, a2, a3, a4.chg hc (fun hk => by have := hu b hk; omega), a5⟩
/-- The slice is stored. -/
theorem NestI.store (h : NestI w0 wo T e V H0 B u n xs lI rI bI aI sI m w) {v' x : Value} (ha : m aI = some v') (h1 : aI ≠ sI) (h2 : rI ≠ sI) (h3 : lI ≠ sI) (h4 : bI ≠ sI) (hT : e ≠ T) (hV0 : w0.heap.size ≤ V) (hVB : V < B) (hc : Chg (· = V) w w') {z : Array Value} (hz : Blk w V T z) (hb : Blk w' V T v'.cells) :
    NestI w0 wo T e V H0 B u n xs lI rI bI aI sI (upd m sI x) w' := by
  refine ⟨h.chg0.own hc hV0, h.chg.trans (hc.mono fun k _ hk => .inl hk), h.app.keep (Ne.symm h1) ?_ hc (fun g cs _ hg he => ?_), StI.store h1 ha hb, ?_, ?_, ?_⟩
  · rintro news ⟨rv', hr', hn⟩
    exact ⟨rv', by rw [upd_ne h2]; exact hr', hn⟩
  · have he' : g = V := he
    subst he'
    exact hT (hg.sameTy hz)
  · rw [upd_ne h1, upd_ne h3]; exact h.back1
  · intro _; rw [upd_ne h1, ha]; simp
  · rw [upd_ne h4]
    intro w1 hw1
    obtain ⟨rv1, b, a1, a2, a3, a4, a5⟩ := h.elem w1 hw1
    exact ⟨rv1, b, by rw [upd_ne h2]; exact a1, a2, a3, a4.chg hc (by omega), a5⟩
theorem NestI.load (h : NestI w0 wo T e V H0 B u n xs lI rI bI aI sI m w) (hm : m lI = none) : Blk w V T #[u] := by
  refine h.var.ready ?_
  cases hh : m sI with
  | none => rfl
  | some x => exact absurd hm (h.back1 (h.back2 (by rw [hh]; simp)))
theorem NestI.done (h : NestI w0 wo T e V H0 B u n xs lI rI bI aI sI m w) {v' x rv : Value} (ha : m aI = some v') (hs : m sI = some x) (hr : m rI = some rv) : Blk w V T v'.cells ∧ w.ownsRow H0 e 1 v' (n + 1) (xs ++ [rv]) := by
  refine ⟨h.var.done hs ha, ?_⟩
  obtain ⟨news, ⟨rv', hr', rfl⟩, ho⟩ := h.app.2 v' ha
  rw [hr] at hr'
  cases hr'
  exact ho
end
end Go.Proofs.Ytbgepefdfioljaa
