/- LinkFile of the program and of the reference. -/
import Derived.Test.YtbgepefdfioljaaKb
import Derived.Maps.AppendAt
namespace Go.Proofs.Ytbgepefdfioljaa
open Go.RowKit

def LArgs (xs : List Lk) (f n o : Int) : Prop := linksOk xs ∧ 0 ≤ f ∧ f < 8 ∧ -1 ≤ n ∧ n ≤ 1 ∧ -1 ≤ o ∧ o ≤ 1
def Lk.add (l : Lk) (n o : Int) : Lk := ⟨l.names + n, l.opens + o⟩
def linked (xs : List Lk) (f : Nat) (n o : Int) : List Lk := xs.take f ++ (match xs[f]? with | some l => [l.add n o] | none => []) ++ xs.drop (f + 1)
def LFile (xs : List Lk) (f n o : Int) (ys : List Lk) (b : Bool) : Prop :=
  (¬ LArgs xs f n o → ys = [] ∧ b = false) ∧ (LArgs xs f n o → (linksOk (linked xs f.toNat n o) → ys = linked xs f.toNat n o ∧ b = true) ∧ (¬ linksOk (linked xs f.toNat n o) → ys = xs ∧ b = false))
theorem linked_eq {xs : List Lk} {f : Nat} (h : f < xs.length) (n o : Int) : linked xs f n o = xs.take f ++ (xs[f].add n o :: xs.drop (f + 1)) := by
  unfold linked; rw [List.getElem?_eq_getElem h]; simp
theorem linked_len {xs : List Lk} {f : Nat} (h : f < xs.length) (n o : Int) : (linked xs f n o).length = xs.length := by
  rw [linked_eq h]; simp; omega
theorem lcells_split {xs : List Lk} {f : Nat} (h : f < xs.length) : lcells xs = lcells (xs.take f) ++ .int .i64 xs[f].names :: .int .i64 xs[f].opens :: lcells (xs.drop (f + 1)) := by
  rw [← lcells_drop xs f h]
  unfold lcells
  rw [← List.flatMap_append, List.take_append_drop]
theorem lcells_linked {xs : List Lk} {f : Nat} (h : f < xs.length) (n o : Int) : lcells (linked xs f n o) = lcells (xs.take f) ++ .int .i64 (xs[f].names + n) :: .int .i64 (xs[f].opens + o) :: lcells (xs.drop (f + 1)) := by
  rw [linked_eq h]; unfold lcells; rw [List.flatMap_append, List.flatMap_cons]; rfl

/-- What LinkFile leaves. -/
def LFPost (w : World) (xs : List Lk) (f n o : Int) (e : Ending) (w' : World) : Prop :=
  ∃ A' c' ys b, e = .returned (.tuple #[.slice A' ys.length c', .bool b]) ∧ OwnS w.heap.size w'.heap.size w' 64 A' ys.length c' (lcells ys) ∧ LFile xs f n o ys b ∧ Chg NoB w w'
theorem LFPost.bad {w w' : World} {xs : List Lk} {f n o : Int} {A : Option Addr} {c : Nat} (hc : Chg NoB w w') (hn : ¬ LArgs xs f n o) : LFPost w xs f n o (.returned (.tuple #[.slice A 0 c, .bool false])) w' :=
  ⟨A, c, [], false, rfl, OwnS.empty _ _ _ _ _ _, ⟨fun _ => ⟨rfl, rfl⟩, fun hh => absurd hh hn⟩, hc⟩
theorem LFPost.old {w w' : World} {xs : List Lk} {f n o : Int} {A : Option Addr} {c : Nat} (hc : Chg NoB w w') (ha : LArgs xs f n o) (hn : ¬ linksOk (linked xs f.toNat n o)) (ho : OwnS w.heap.size w'.heap.size w' 64 A xs.length c (lcells xs)) :
    LFPost w xs f n o (.returned (.tuple #[.slice A xs.length c, .bool false])) w' :=
  ⟨A, c, xs, false, rfl, ho, ⟨fun hh => absurd ha hh, fun _ => ⟨fun hh => absurd hh hn, fun _ => ⟨rfl, rfl⟩⟩⟩, hc⟩
theorem LFPost.new {w w' : World} {xs : List Lk} {f n o : Int} {A : Option Addr} {c m : Nat} (hm : m = (linked xs f.toNat n o).length) (hc : Chg NoB w w') (ha : LArgs xs f n o) (hn : linksOk (linked xs f.toNat n o)) (ho : OwnS w.heap.size w'.heap.size w' 64 A m c (lcells (linked xs f.toNat n o))) :
    LFPost w xs f n o (.returned (.tuple #[.slice A m c, .bool true])) w' := by
  subst hm
  exact ⟨A, c, _, true, rfl, ho, ⟨fun hh => absurd ha hh, fun _ => ⟨fun _ => ⟨rfl, rfl⟩, fun hh => absurd hn hh⟩⟩, hc⟩


theorem lcells_one (xs : List Lk) : ∀ u ∈ lcells xs, u.oneCell' = true := fun u hu => by
  obtain ⟨l, _, hl⟩ := List.mem_flatMap.1 hu
  simp [Lk.enc] at hl
  rcases hl with rfl | rfl <;> rfl
theorem rd_news {F : Nat → Prop} {w : World} {ad : Addr} {cs : List Value} (h : Rd F w (some ad) cs) (o : Obj) : ∀ j u, cs[j]? = some u → (w.alloc o).cell? (ad.add j) = some u := fun j u hj => by
  obtain ⟨ad', e, _, hcell⟩ := h.chg ((Chg.refl NoB w).alloc o) (fun _ _ x => x) j u hj
  cases e
  exact hcell

end Go.Proofs.Ytbgepefdfioljaa
