/- Two variables that a drawn region makes and stores into. What CleanBlock gives. -/
import Derived.Test.YtpiojofmflfkkaaMa
import Derived.Test.YtpiojofmflfkkaaCa
import Derived.Test.YtpiojofmflfkkaaMc
namespace Go.Proofs.Ytpiojofmflfkkaa
open Go.RowKit
/-- What a drawn region may turn: new boxes of type T1 or T2. -/
def RB2 (B : Nat) (T1 T2 : TypeId) (w w' : World) : Prop := Chg (fun k => B ≤ k ∧ ((∃ cs, Blk w k T1 cs) ∨ ∃ cs, Blk w k T2 cs)) w w'
section
variable {B : Nat} {T1 T2 : TypeId} {w w' : World}
theorem RB2.of (hc : Chg NoB w w') : RB2 B T1 T2 w w' := hc.mono fun _ _ hk => hk.elim
theorem RB2.blk (h : RB2 B T1 T2 w w') {b : Nat} {t : TypeId} {cs : Array Value} (hb : Blk w b t cs) (h1 : t ≠ T1) (h2 : t ≠ T2) : Blk w' b t cs := hb.chg h (by
  rintro ⟨-, ⟨cs', h3⟩ | ⟨cs', h3⟩⟩
  · exact h1 (hb.sameTy h3)
  · exact h2 (hb.sameTy h3))
theorem RB2.box1 {bx : Nat} {cs : Array Value} (hc : Chg (· = bx) w w') (hB : B ≤ bx) (hb : Blk w bx T1 cs) : RB2 B T1 T2 w w' := hc.mono fun k _ hk => by
  have hk' : k = bx := hk
  subst hk'
  exact ⟨hB, .inl ⟨cs, hb⟩⟩
theorem RB2.box2 {bx : Nat} {cs : Array Value} (hc : Chg (· = bx) w w') (hB : B ≤ bx) (hb : Blk w bx T2 cs) : RB2 B T1 T2 w w' := hc.mono fun k _ hk => by
  have hk' : k = bx := hk
  subst hk'
  exact ⟨hB, .inr ⟨cs, hb⟩⟩
end
theorem BoxI.keepT {B : Nat} {T T' : TypeId} {z : Array Value} {ai si vi i : Nat} {m : Nat → Option Value} {F : Nat → Prop} {w w' : World} {v : Value} (h : BoxI B T z ai si vi m w) (ha : i ≠ ai) (hs : i ≠ si) (hm : m i = none) (hc : Chg F w w') (hF : ∀ k, F k → ∃ cs, Blk w k T' cs) (ht : T ≠ T') : BoxI B T z ai si vi (upd m i v) w' := by
  have e1 : upd m i v ai = m ai := if_neg (Ne.symm ha)
  have e2 : upd m i v si = m si := if_neg (Ne.symm hs)
  have key : ∀ (b : Nat) (cs : Array Value), Blk w b T cs → Blk w' b T cs := fun b cs hb => hb.chg hc fun hk => by
    obtain ⟨cs', h'⟩ := hF b hk
    exact ht (hb.sameTy h')
  refine ⟨by rw [e1, e2]; exact h.1, fun p hp => ?_⟩
  rw [e1] at hp
  obtain ⟨bx, rfl, hB, hr⟩ := h.2 p hp
  refine ⟨bx, rfl, hB, ?_⟩
  rw [e2]
  rcases hr with ⟨h1, h2⟩ | ⟨h1, u, h2, h3⟩
  · exact .inl ⟨h1, key _ _ h2⟩
  · refine .inr ⟨h1, u, ?_, key _ _ h3⟩
    have : vi ≠ i := fun e => by rw [e, hm] at h2; cases h2
    unfold upd; rw [if_neg this]; exact h2
theorem ty_blk_tab : (67 : Nat) ≠ 31 := by decide
theorem ty_blk_hds : (67 : Nat) ≠ 46 := by decide
theorem ty_pag_tab : (80 : Nat) ≠ 31 := by decide
theorem ty_pag_hds : (80 : Nat) ≠ 46 := by decide
theorem ty_ints_tab : (24 : Nat) ≠ 31 := by decide
theorem ty_ints_hds : (24 : Nat) ≠ 46 := by decide
theorem ty_int_tab : (3 : Nat) ≠ 31 := by decide
theorem ty_int_hds : (3 : Nat) ≠ 46 := by decide
theorem DevQ.box2 {B E B' : Nat} {w w' : World} {A : Option Addr} {c : Nat} {T : List BkO} (h : DevQ B E w A c T) (hR : RB2 B' 31 46 w w') : DevQ B E w' A c T := by
  refine ⟨⟨⟨h.1.1.1, ?_⟩, ⟨fun r hr => ?_, h.1.2.2⟩⟩, fun hT => ?_⟩
  · rcases h.1.1.2 with h0 | ⟨g, rest, e, hg, hE, hb⟩
    · exact .inl h0
    · exact .inr ⟨g, rest, e, hg, hE, hR.blk hb ty_blk_tab ty_blk_hds⟩
  · obtain ⟨h1, h2, h3, h4⟩ := h.1.2.1 r hr
    exact ⟨h1, h2, hR.blk h3 ty_pag_tab ty_pag_hds, h4⟩
  · obtain ⟨h1, g, cs, h2, h3, h4⟩ := h.2 hT
    exact ⟨h1, g, cs, h2, hR.blk h3 ty_blk_tab ty_blk_hds, h4⟩
theorem TabO.box2 {B E B' : Nat} {w w' : World} {A : Option Addr} {c : Nat} {T : List RowO} (h : TabO B E w A c T) (hR : RB2 B' 31 46 w w') : TabO B E w' A c T := by
  refine ⟨⟨h.1.1, ?_⟩, ⟨fun r hr => ?_, h.2.2⟩⟩
  · rcases h.1.2 with h0 | ⟨g, rest, e, hg, hE, hb⟩
    · exact .inl h0
    · exact .inr ⟨g, rest, e, hg, hE, hR.blk hb ty_ints_tab ty_ints_hds⟩
  · obtain ⟨h1, h2, h3, h4⟩ := h.2.1 r hr
    exact ⟨h1, h2, hR.blk h3 ty_int_tab ty_int_hds, h4⟩
/-- What CleanBlock gives. -/
def CleanP (w : World) (q : CbR) (e : Ending) (w' : World) : Prop :=
  ∃ (A : Option Addr) (c : Nat) (T : List BkO) (A' : Option Addr) (c' : Nat) (T' : List RowO), e = .returned (.tuple #[.slice A q.dev.length c, .agg #[.slice A' q.tab.length c'], hval q.hd, .int .i64 q.many, .bool q.ok]) ∧ bksOf T = q.dev ∧ listsOf T' = q.tab ∧
    DevQ w.heap.size w'.heap.size w' A c T ∧ TabO w.heap.size w'.heap.size w' A' c' T' ∧ Chg NoB w w'
theorem CleanP.no {w w' : World} {D : List Bk} {X : List (List Int)} {h : Hd} {n s : Int} {A : Option Addr} {c : Nat} (hh : ¬ cbOk D X h n s) (hc : Chg NoB w w') : CleanP w (cleanBlock D X h n s) (.returned (.tuple #[.slice A 0 c, .agg #[.slice none 0 0], hval ⟨0, 0, 0⟩, .int .i64 0, .bool false])) w' := by
  unfold CleanP cleanBlock
  rw [if_neg hh]
  exact ⟨A, c, [], none, 0, [], rfl, rfl, rfl, DevQ.nil _ _ _ _ _, TabO.nil _ _ _ _ _, hc⟩
theorem pgAt_blk {D : List Bk} {n k : Nat} (hn : n < D.length) (hk : k < 4) (h : k < D[n].pages.length) : pgAt D (4 * n + k) = D[n].pages[k] := by
  have e1 : (4 * n + k) / 4 = n := by omega
  have e2 : (4 * n + k) % 4 = k := by omega
  unfold pgAt
  rw [e1, e2, getD_get _ _ hn, getD_get _ _ h]
theorem lit4 (w : World) (t1 t2 t3 t4 : TypeId) (c1 c2 c3 c4 : Array Value) :
    Blk ((((w.alloc (.cells c1 t1)).alloc (.cells c2 t2)).alloc (.cells c3 t3)).alloc (.cells c4 t4)) w.heap.size t1 c1 ∧ Blk ((((w.alloc (.cells c1 t1)).alloc (.cells c2 t2)).alloc (.cells c3 t3)).alloc (.cells c4 t4)) (w.heap.size + 1) t2 c2 ∧
    Blk ((((w.alloc (.cells c1 t1)).alloc (.cells c2 t2)).alloc (.cells c3 t3)).alloc (.cells c4 t4)) (w.heap.size + 1 + 1) t3 c3 ∧ Blk ((((w.alloc (.cells c1 t1)).alloc (.cells c2 t2)).alloc (.cells c3 t3)).alloc (.cells c4 t4)) (w.heap.size + 1 + 1 + 1) t4 c4 ∧
    Chg NoB w ((((w.alloc (.cells c1 t1)).alloc (.cells c2 t2)).alloc (.cells c3 t3)).alloc (.cells c4 t4)) := by
  obtain ⟨p1, p2, p3⟩ := lit2 w t1 t2 c1 c2
  obtain ⟨q1, q2, q3⟩ := lit2 ((w.alloc (.cells c1 t1)).alloc (.cells c2 t2)) t3 t4 c3 c4
  rw [World.size_alloc, World.size_alloc] at q1 q2
  exact ⟨p1.chg q3 (fun x => x), p2.chg q3 (fun x => x), q1, q2, p3.trans q3⟩
end Go.Proofs.Ytpiojofmflfkkaa
