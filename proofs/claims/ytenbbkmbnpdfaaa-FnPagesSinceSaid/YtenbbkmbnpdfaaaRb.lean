/- A variable that a drawn region makes and stores into: its block, by the operations that are done. -/
import Derived.Test.YtenbbkmbnpdfaaaRh
import Derived.Test.YtenbbkmbnpdfaaaAp
namespace Go.Proofs.Ytenbbkmbnpdfaaa
open Go.RowKit
theorem Blk.sameTy {w : World} {g : Nat} {t t' : TypeId} {cs cs' : Array Value} (h : Blk w g t cs) (h' : Blk w g t' cs') : t = t' := by
  unfold Blk at h h'
  rw [h] at h'
  injection h' with h'
  injection h'
theorem Blk.same {w : World} {g : Nat} {t t' : TypeId} {cs cs' : Array Value} (h : Blk w g t cs) (h' : Blk w g t' cs') : cs = cs' := by
  unfold Blk at h h'
  rw [h] at h'
  injection h' with h'
  injection h'
/-- What a drawn region may turn: blocks of G, and new boxes of type T. -/
def RBox (G : Nat → Prop) (B : Nat) (T : TypeId) (w w' : World) : Prop := Chg (fun k => G k ∨ (B ≤ k ∧ ∃ cs, Blk w k T cs)) w w'
section
variable {G F : Nat → Prop} {B : Nat} {T : TypeId} {w w' : World}
theorem RBox.of (hc : Chg F w w') (h : ∀ k, F k → G k) : RBox G B T w w' := hc.mono fun k _ hk => .inl (h k hk)
theorem RBox.chg (h : RBox G B T w w') : Chg (fun k => G k ∨ B ≤ k) w w' := Chg.mono h fun _ _ hk => hk.imp id (fun x => x.1)
theorem RBox.blk (h : RBox G B T w w') {b : Nat} {t : TypeId} {cs : Array Value} (hb : Blk w b t cs) (hg : ¬ G b) (ht : b < B ∨ t ≠ T) : Blk w' b t cs := hb.chg h (by
  rintro (h1 | ⟨h1, cs', h2⟩)
  · exact hg h1
  · rcases ht with h3 | h3
    · omega
    · exact h3 (hb.sameTy h2))
theorem RBox.box {bx : Nat} {cs : Array Value} (hc : Chg (· = bx) w w') (hB : B ≤ bx) (hb : Blk w bx T cs) : RBox G B T w w' := hc.mono fun k _ hk => by
  have hk' : k = bx := hk
  subst hk'
  exact .inr ⟨hB, cs, hb⟩
theorem own_low {B' n size : Nat} {e : TypeId} {v : Value} {xs : List Value} (h : w.ownsRow B e size v n xs) (hB : B' ≤ B) : w.ownsRow B' e size v n xs := by
  obtain ⟨hl, h⟩ := h
  refine ⟨hl, ?_⟩
  rcases h with h | ⟨g, cap, cur, rfl, hb, hr⟩
  · exact .inl h
  · exact .inr ⟨g, cap, cur, rfl, Nat.le_trans hB hb, hr⟩
theorem own_ne_box {n size : Nat} {e : TypeId} {v : Value} {xs : List Value} {bx : Nat} {cs : Array Value} (h : w.ownsRow B e size v n xs) (hb : Blk w bx T cs) (ht : e ≠ T) : some bx ≠ v.ownBlock := fun he => by
  rcases h.2 with ⟨rfl, _⟩ | ⟨g, cap, cur, rfl, _, hg, _⟩
  · cases he
  · have he' : bx = g := by simpa [Value.ownBlock] using he
    subst he'
    exact ht (Blk.sameTy (show Blk w bx e cur from hg) hb)
theorem chg_row {row : Option Nat} (h : w.grownBy w' row) : Chg (fun k => some k = row) w w' := (Chg.refl (fun k => some k = row) w).grown h (fun _ hk => .inl hk.symm)
theorem own_chg1 {n size : Nat} {e : TypeId} {v : Value} {xs : List Value} (h : w.ownsRow B e size v n xs) (hc : Chg F w w') (hf : ∀ g cs, B ≤ g → Blk w g e cs → ¬ F g) : w'.ownsRow B e size v n xs := by
  obtain ⟨hl, h⟩ := h
  refine ⟨hl, ?_⟩
  rcases h with h | ⟨g, cap, cur, rfl, hb, hg, hr⟩
  · exact .inl h
  · exact .inr ⟨g, cap, cur, rfl, hb, (hc.block g (Array.getElem?_eq_some_iff.1 hg).1 (hf g cur hb hg)).trans hg, hr⟩
theorem RBox.own {n size : Nat} {e : TypeId} {v : Value} {xs : List Value} (hr : RBox G B T w w') (h : w.ownsRow B e size v n xs) (hg : ∀ k, B ≤ k → ¬ G k) (ht : e ≠ T) : w'.ownsRow B e size v n xs :=
  own_chg1 h hr fun g _ hb hk => by
    rintro (h1 | ⟨_, cs', h2⟩)
    · exact hg g hb h1
    · exact ht (hk.sameTy h2)
end

/-- The box that operation ai makes with the cells z, and into which operation si stores the value of operation vi. -/
def BoxI (B : Nat) (T : TypeId) (z : Array Value) (ai si vi : Nat) (m : Nat → Option Value) (w : World) : Prop :=
  (m si ≠ none → m ai ≠ none) ∧ ∀ p, m ai = some p → ∃ bx, p = .pointer (some ⟨bx, 0, none⟩) ∧ B ≤ bx ∧ ((m si = none ∧ Blk w bx T z) ∨ (m si ≠ none ∧ ∃ u, m vi = some u ∧ Blk w bx T u.cells))
section
variable {B : Nat} {T : TypeId} {z : Array Value} {ai si vi i : Nat} {m : Nat → Option Value} {F : Nat → Prop} {w w' : World} {v : Value}
theorem BoxI.start : BoxI B T z ai si vi (fun _ => none) w := ⟨fun h => absurd rfl h, fun p hp => by cases hp⟩
theorem BoxI.keep (h : BoxI B T z ai si vi m w) (ha : i ≠ ai) (hs : i ≠ si) (hm : m i = none) (hc : Chg F w w') (hF : ∀ k, B ≤ k → ¬ F k) : BoxI B T z ai si vi (upd m i v) w' := by
  have e1 : upd m i v ai = m ai := if_neg (Ne.symm ha)
  have e2 : upd m i v si = m si := if_neg (Ne.symm hs)
  refine ⟨by rw [e1, e2]; exact h.1, fun p hp => ?_⟩
  rw [e1] at hp
  obtain ⟨bx, rfl, hB, hr⟩ := h.2 p hp
  refine ⟨bx, rfl, hB, ?_⟩
  rw [e2]
  rcases hr with ⟨h1, h2⟩ | ⟨h1, u, h2, h3⟩
  · exact .inl ⟨h1, h2.chg hc (hF bx hB)⟩
  · refine .inr ⟨h1, u, ?_, h3.chg hc (hF bx hB)⟩
    have : vi ≠ i := fun e => by rw [e, hm] at h2; cases h2
    unfold upd; rw [if_neg this]; exact h2
theorem BoxI.alloc (h : BoxI B T z ai si vi m w) (hsi : si ≠ ai) (hm : m ai = none) (hB : B ≤ w.heap.size) : BoxI B T z ai si vi (upd m ai (.pointer (some ⟨w.heap.size, 0, none⟩))) (w.alloc (.cells z T)) := by
  have hs : m si = none := by
    cases hh : m si with
    | none => rfl
    | some u => exact absurd hm (h.1 (by rw [hh]; simp))
  have e1 : upd m ai (.pointer (some ⟨w.heap.size, 0, none⟩)) ai = some (.pointer (some ⟨w.heap.size, 0, none⟩)) := if_pos rfl
  have e2 : upd m ai (.pointer (some ⟨w.heap.size, 0, none⟩)) si = none := by unfold upd; rw [if_neg hsi]; exact hs
  refine ⟨fun hh => absurd e2 hh, fun p hp => ?_⟩
  rw [e1] at hp
  cases hp
  exact ⟨_, rfl, hB, .inl ⟨e2, Blk.new _ _ _⟩⟩
/-- What is known when the store's turn has come. -/
theorem BoxI.ready (h : BoxI B T z ai si vi m w) (hm : m si = none) {p : Value} (hp : m ai = some p) : ∃ bx, p = .pointer (some ⟨bx, 0, none⟩) ∧ B ≤ bx ∧ Blk w bx T z := by
  obtain ⟨bx, rfl, hB, hr⟩ := h.2 p hp
  rcases hr with ⟨_, h2⟩ | ⟨h1, _⟩
  · exact ⟨bx, rfl, hB, h2⟩
  · exact absurd hm h1
theorem BoxI.store {bx : Nat} {u x : Value} (hsi : si ≠ ai) (hvi : vi ≠ si) (hp : m ai = some (.pointer (some ⟨bx, 0, none⟩))) (hB : B ≤ bx) (hu : m vi = some u) (hb : Blk w' bx T u.cells) : BoxI B T z ai si vi (upd m si x) w' := by
  have e1 : upd m si x ai = m ai := if_neg (Ne.symm hsi)
  have e2 : upd m si x si = some x := if_pos rfl
  have e3 : upd m si x vi = m vi := if_neg hvi
  refine ⟨fun _ => by rw [e1, hp]; simp, fun p hp' => ?_⟩
  rw [e1, hp] at hp'
  cases hp'
  exact ⟨bx, rfl, hB, .inr ⟨by rw [e2]; simp, u, by rw [e3]; exact hu, hb⟩⟩
theorem BoxI.done (h : BoxI B T z ai si vi m w) {p x u : Value} (hp : m ai = some p) (hs : m si = some x) (hu : m vi = some u) : ∃ bx, p = .pointer (some ⟨bx, 0, none⟩) ∧ B ≤ bx ∧ Blk w bx T u.cells := by
  obtain ⟨bx, rfl, hB, hr⟩ := h.2 p hp
  rcases hr with ⟨h1, _⟩ | ⟨_, u', h2, h3⟩
  · rw [hs] at h1; cases h1
  · rw [hu] at h2; cases h2; exact ⟨bx, rfl, hB, h3⟩
theorem BoxI.more {c : Nat} (h : BoxI B T z ai si vi m w) (_ : c = c) : BoxI B T z ai si vi m w := h
end

/-- A block that lay before, into which operation si stores the value of operation vi. -/
def StI (H : Nat) (T : TypeId) (z : Array Value) (si vi : Nat) (m : Nat → Option Value) (w : World) : Prop :=
  (m si = none ∧ Blk w H T z) ∨ (m si ≠ none ∧ ∃ u, m vi = some u ∧ Blk w H T u.cells)
section
variable {H : Nat} {T : TypeId} {z : Array Value} {si vi i : Nat} {m : Nat → Option Value} {F : Nat → Prop} {w w' : World} {v : Value}
theorem StI.keep (h : StI H T z si vi m w) (hs : i ≠ si) (hm : m i = none) (hc : Chg F w w') (hF : ¬ F H) : StI H T z si vi (upd m i v) w' := by
  have e2 : upd m i v si = m si := if_neg (Ne.symm hs)
  unfold StI
  rw [e2]
  rcases h with ⟨h1, h2⟩ | ⟨h1, u, h2, h3⟩
  · exact .inl ⟨h1, h2.chg hc hF⟩
  · refine .inr ⟨h1, u, ?_, h3.chg hc hF⟩
    have : vi ≠ i := fun e => by rw [e, hm] at h2; cases h2
    unfold upd; rw [if_neg this]; exact h2
theorem StI.ready (h : StI H T z si vi m w) (hm : m si = none) : Blk w H T z := by
  rcases h with ⟨_, h2⟩ | ⟨h1, _⟩
  · exact h2
  · exact absurd hm h1
theorem StI.store {u x : Value} (hvi : vi ≠ si) (hu : m vi = some u) (hb : Blk w' H T u.cells) : StI H T z si vi (upd m si x) w' :=
  .inr ⟨by unfold upd; simp, u, by unfold upd; rw [if_neg hvi]; exact hu, hb⟩
theorem StI.done (h : StI H T z si vi m w) {x u : Value} (hs : m si = some x) (hu : m vi = some u) : Blk w H T u.cells := by
  rcases h with ⟨h1, _⟩ | ⟨_, u', h2, h3⟩
  · rw [hs] at h1; cases h1
  · rw [hu] at h2; cases h2; exact h3
end
end Go.Proofs.Ytenbbkmbnpdfaaa
