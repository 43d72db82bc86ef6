/- Parts of the proof, merged: Za, Zb, Zc, Zd, Ze, Zf. -/
import Derived.Test.YtpiojofmflfkkaaMa
import Derived.Test.YtpiojofmflfkkaaMb
import Derived.BigRegion
import Derived.IntWalk
/- Sorting by a key, then by number: the plain law of the steps of a stable sort. No program is named here. -/
namespace Go.Proofs.Ytpiojofmflfkkaa
/-- By the key, then by the number. -/
def leK (K : Nat → Int) (x y : Nat) : Bool := decide (K x < K y ∨ (K x = K y ∧ x ≤ y))
def srt (K : Nat → Int) (L : List Nat) : List Nat := L.mergeSort (leK K)
abbrev Srt (K : Nat → Int) (L : List Nat) : Prop := L.Pairwise (fun x y => leK K x y = true)
/-- Of one key: what stands in U comes ahead of what stands in V. -/
def Cross (K : Nat → Int) (U V : List Nat) : Prop := ∀ x ∈ U, ∀ y ∈ V, K x = K y → x ≤ y
section
variable {K : Nat → Int}
theorem leK_iff {x y : Nat} : leK K x y = true ↔ K x < K y ∨ (K x = K y ∧ x ≤ y) := by unfold leK; exact decide_eq_true_iff
theorem leK_trans (a b c : Nat) (h1 : leK K a b = true) (h2 : leK K b c = true) : leK K a c = true := by
  rw [leK_iff] at *; omega
theorem leK_total (a b : Nat) : (leK K a b || leK K b a) = true := by rw [Bool.or_eq_true, leK_iff, leK_iff]; omega
theorem leK_refl (a : Nat) : leK K a a = true := by rw [leK_iff]; omega
theorem leK_anti {a b : Nat} (h1 : leK K a b = true) (h2 : leK K b a = true) : a = b := by rw [leK_iff] at *; omega
theorem srt_perm (L : List Nat) : (srt K L).Perm L := List.mergeSort_perm L _
theorem srt_sorted (L : List Nat) : Srt K (srt K L) := List.pairwise_mergeSort leK_trans leK_total L
theorem srt_eq {S L : List Nat} (hp : S.Perm L) (hs : Srt K S) : S = srt K L :=
  List.Perm.eq_of_pairwise (fun _ _ _ _ h1 h2 => leK_anti h1 h2) hs (srt_sorted L) (hp.trans (srt_perm L).symm)
theorem srt_self {S : List Nat} (hs : Srt K S) : srt K S = S := (srt_eq (List.Perm.refl _) hs).symm
theorem srt_length (L : List Nat) : (srt K L).length = L.length := (srt_perm L).length_eq
theorem srt_mem {L : List Nat} {x : Nat} : x ∈ srt K L ↔ x ∈ L := (srt_perm L).mem_iff
theorem srt_congr {A B : List Nat} (h : A.Perm B) : srt K A = srt K B := srt_eq ((srt_perm A).trans h) (srt_sorted A)
theorem srt_left (A B : List Nat) : srt K (srt K A ++ B) = srt K (A ++ B) := srt_congr ((srt_perm A).append_right B)
theorem srt_both (A B : List Nat) : srt K (srt K A ++ srt K B) = srt K (A ++ B) := srt_congr ((srt_perm A).append (srt_perm B))
theorem Srt.at_ {S : List Nat} (h : Srt K S) {i j : Nat} (hij : i ≤ j) (hj : j < S.length) : leK K (S.getD i 0) (S.getD j 0) = true := by
  rcases Nat.lt_or_ge i j with h1 | h1
  · have := List.pairwise_iff_getElem.1 h i j (by omega) hj h1
    rwa [List.getD_eq_getElem?_getD, List.getD_eq_getElem?_getD, List.getElem?_eq_getElem (by omega), List.getElem?_eq_getElem hj]
  · obtain rfl : i = j := by omega
    exact leK_refl _
theorem getD_mem {S : List Nat} {i : Nat} (h : i < S.length) : S.getD i 0 ∈ S := by
  rw [List.getD_eq_getElem?_getD, List.getElem?_eq_getElem h]; exact List.getElem_mem h
theorem mem_take {S : List Nat} {i x : Nat} (h : x ∈ S.take i) : ∃ k, k < i ∧ k < S.length ∧ S.getD k 0 = x := by
  obtain ⟨k, hk, rfl⟩ := List.getElem_of_mem h
  rw [List.length_take] at hk
  refine ⟨k, by omega, by omega, ?_⟩
  rw [List.getD_eq_getElem?_getD, List.getElem?_eq_getElem (show k < S.length by omega), List.getElem_take]; rfl
theorem mem_drop {S : List Nat} {i x : Nat} (h : x ∈ S.drop i) : ∃ k, i ≤ k ∧ k < S.length ∧ S.getD k 0 = x := by
  obtain ⟨k, hk, rfl⟩ := List.getElem_of_mem h
  rw [List.length_drop] at hk
  refine ⟨i + k, by omega, by omega, ?_⟩
  rw [List.getD_eq_getElem?_getD, List.getElem?_eq_getElem (show i + k < S.length by omega), List.getElem_drop]; rfl
/-- A number is put into a sorted list behind those that it does not come ahead of. -/
theorem ins_right {S : List Nat} {y i : Nat} (hs : Srt K S) (hc : ∀ x ∈ S, K x = K y → x ≤ y) (hi : i ≤ S.length) (h1 : i = 0 ∨ ¬ K y < K (S.getD (i - 1) 0)) (h2 : i = S.length ∨ K y < K (S.getD i 0)) :
    S.take i ++ y :: S.drop i = srt K (S ++ [y]) := by
  apply srt_eq
  · have e : (S.take i ++ y :: S.drop i).Perm (y :: (S.take i ++ S.drop i)) := List.perm_middle
    rw [List.take_append_drop] at e
    exact e.trans (List.perm_append_singleton y S).symm
  · rw [Srt, List.pairwise_append, List.pairwise_cons]
    refine ⟨hs.sublist (List.take_sublist _ _), ⟨fun x hx => ?_, hs.sublist (List.drop_sublist _ _)⟩, fun a ha b hb => ?_⟩
    · obtain ⟨k, hk, hkl, rfl⟩ := mem_drop hx
      have h3 := hs.at_ hk hkl
      rcases h2 with h2 | h2
      · omega
      · exact leK_trans _ _ _ (leK_iff.2 (Or.inl h2)) h3
    · obtain ⟨k, hk, hkl, rfl⟩ := mem_take ha
      have hay : leK K (S.getD k 0) y = true := by
        have h3 := hs.at_ (show k ≤ i - 1 by omega) (show i - 1 < S.length by omega)
        have h4 := hc _ (getD_mem (show i - 1 < S.length by omega))
        rcases h1 with h1 | h1
        · omega
        · exact leK_trans _ _ _ h3 (leK_iff.2 (by omega))
      rcases List.mem_cons.1 hb with rfl | hb
      · exact hay
      · obtain ⟨j, hj, hjl, rfl⟩ := mem_drop hb
        exact hs.at_ (by omega) hjl
/-- A number is put into a sorted list ahead of those that do not come ahead of it. -/
theorem ins_left {S : List Nat} {x i : Nat} (hs : Srt K S) (hc : ∀ y ∈ S, K x = K y → x ≤ y) (hi : i ≤ S.length) (h1 : i = 0 ∨ K (S.getD (i - 1) 0) < K x) (h2 : i = S.length ∨ ¬ K (S.getD i 0) < K x) :
    S.take i ++ x :: S.drop i = srt K (x :: S) := by
  apply srt_eq
  · have e : (S.take i ++ x :: S.drop i).Perm (x :: (S.take i ++ S.drop i)) := List.perm_middle
    rwa [List.take_append_drop] at e
  · rw [Srt, List.pairwise_append, List.pairwise_cons]
    refine ⟨hs.sublist (List.take_sublist _ _), ⟨fun y hy => ?_, hs.sublist (List.drop_sublist _ _)⟩, fun a ha b hb => ?_⟩
    · obtain ⟨k, hk, hkl, rfl⟩ := mem_drop hy
      have h3 := hs.at_ hk hkl
      have h4 := hc _ (getD_mem (show i < S.length by omega))
      rcases h2 with h2 | h2
      · omega
      · exact leK_trans _ _ _ (leK_iff.2 (by omega)) h3
    · obtain ⟨k, hk, hkl, rfl⟩ := mem_take ha
      have hax : leK K (S.getD k 0) x = true := by
        have h3 := hs.at_ (show k ≤ i - 1 by omega) (show i - 1 < S.length by omega)
        rcases h1 with h1 | h1
        · omega
        · exact leK_trans _ _ _ h3 (leK_iff.2 (Or.inl h1))
      rcases List.mem_cons.1 hb with rfl | hb
      · exact hax
      · obtain ⟨j, hj, hjl, rfl⟩ := mem_drop hb
        exact hs.at_ (by omega) hjl
theorem Cross.parts {U V : List Nat} (h : Cross K U V) (i j : Nat) : Cross K (U.take i) (V.take j) ∧ Cross K (U.drop i) (V.drop j) :=
  ⟨fun x hx y hy => h x (List.mem_of_mem_take hx) y (List.mem_of_mem_take hy), fun x hx y hy => h x (List.mem_of_mem_drop hx) y (List.mem_of_mem_drop hy)⟩
/-- Where the two searches of symMerge have met: both halves by themselves, and the whole is sorted. -/
theorem sym_split {U V : List Nat} {M s : Nat} (hU : Srt K U) (hV : Srt K V) (hc : Cross K U V) (h0 : M - V.length ≤ s) (h1 : s ≤ min M U.length)
    (h2 : s = M - V.length ∨ ¬ K (V.getD (M - s) 0) < K (U.getD (s - 1) 0)) (h3 : s = min M U.length ∨ K (V.getD (M - 1 - s) 0) < K (U.getD s 0)) :
    srt K (U.take s ++ V.take (M - s)) ++ srt K (U.drop s ++ V.drop (M - s)) = srt K (U ++ V) := by
  apply srt_eq
  · have e : (U.take s ++ V.take (M - s) ++ (U.drop s ++ V.drop (M - s))).Perm (U ++ V) := by
      have e1 : (V.take (M - s) ++ (U.drop s ++ V.drop (M - s))).Perm (U.drop s ++ (V.take (M - s) ++ V.drop (M - s))) := by
        rw [← List.append_assoc, ← List.append_assoc]
        exact List.perm_append_comm.append_right _
      rw [List.take_append_drop] at e1
      rw [List.append_assoc]
      have e2 := e1.append_left (U.take s)
      rwa [← List.append_assoc (U.take s) (U.drop s), List.take_append_drop] at e2
    exact ((srt_perm _).append (srt_perm _)).trans e
  · rw [Srt, List.pairwise_append]
    refine ⟨srt_sorted _, srt_sorted _, fun a ha b hb => ?_⟩
    rw [srt_mem, List.mem_append] at ha hb
    rcases ha with ha | ha <;> rcases hb with hb | hb <;> obtain ⟨k, hk, hkl, rfl⟩ := mem_take ha <;> obtain ⟨j, hj, hjl, rfl⟩ := mem_drop hb
    · exact hU.at_ (by omega) hjl
    · have q1 := hU.at_ (show k ≤ s - 1 by omega) (show s - 1 < U.length by omega)
      have q2 := hV.at_ hj hjl
      have q3 := hc _ (getD_mem (show s - 1 < U.length by omega)) _ (getD_mem (show M - s < V.length by omega))
      rcases h2 with h2 | h2
      · omega
      · exact leK_trans _ _ _ q1 (leK_trans _ _ _ (leK_iff.2 (by omega)) q2)
    · have q1 := hV.at_ (show k ≤ M - 1 - s by omega) (show M - 1 - s < V.length by omega)
      have q2 := hU.at_ hj hjl
      rcases h3 with h3 | h3
      · omega
      · exact leK_trans _ _ _ q1 (leK_trans _ _ _ (leK_iff.2 (Or.inl h3)) q2)
    · exact hV.at_ (by omega) hjl
/-- The insertion of the next number. -/
theorem srt_snoc {X : List Nat} (hX : X.Pairwise (· < ·)) {k i : Nat} (hk : k < X.length) (hi : i ≤ k)
    (h1 : i = 0 ∨ ¬ K (X.getD k 0) < K ((srt K (X.take k)).getD (i - 1) 0)) (h2 : i = k ∨ K (X.getD k 0) < K ((srt K (X.take k)).getD i 0)) :
    (srt K (X.take k)).take i ++ X.getD k 0 :: (srt K (X.take k)).drop i = srt K (X.take (k + 1)) := by
  have hl : (srt K (X.take k)).length = k := by rw [srt_length, List.length_take]; omega
  have hg : X.getD k 0 = X[k] := by rw [List.getD_eq_getElem?_getD, List.getElem?_eq_getElem hk]; rfl
  rw [ins_right (srt_sorted _) (fun x hx _ => ?_) (by omega) h1 (by rw [hl]; exact h2), srt_left, List.take_succ_eq_append_getElem hk, hg]
  rw [srt_mem] at hx
  obtain ⟨j, hj, hjl, rfl⟩ := mem_take hx
  have := List.pairwise_iff_getElem.1 hX j k hjl hk hj
  rw [hg, List.getD_eq_getElem?_getD, List.getElem?_eq_getElem hjl]
  exact Nat.le_of_lt this
theorem cross_of_lt {X Y : List Nat} (h : (X ++ Y).Pairwise (· < ·)) : Cross K X Y := fun x hx y hy _ => Nat.le_of_lt ((List.pairwise_append.1 h).2.2 x hx y hy)
theorem Cross.srt {X Y : List Nat} (h : Cross K X Y) : Cross K (srt K X) (srt K Y) := fun x hx y hy => h x (srt_mem.1 hx) y (srt_mem.1 hy)
end
end Go.Proofs.Ytpiojofmflfkkaa
/- The insertion sort of a row of page numbers. -/
namespace Go.Proofs.Ytpiojofmflfkkaa
open Go.RowKit
def rowc (L : List Nat) : List Value := L.map fun (n : Nat) => .int .i64 (n : Int)
theorem rowc_length (L : List Nat) : (rowc L).length = L.length := by simp [rowc]
theorem rowc_append (A B : List Nat) : rowc (A ++ B) = rowc A ++ rowc B := by simp [rowc]
theorem rowc_cons (x : Nat) (B : List Nat) : rowc (x :: B) = .int .i64 (x : Int) :: rowc B := rfl
/-- The comparison of two stamps. -/
def cmp3 (a b : Int) : Int := if a < b then -1 else if b < a then 1 else 0
theorem cmp3_lt {a b : Int} : cmp3 a b < 0 ↔ a < b := by unfold cmp3; split <;> (try split) <;> omega
/-- What is asked of the comparison: it compares by K, and turns nothing old. -/
def CmpP (w : World) (g : Nat) (cb : Value) (K : Nat → Int) (M : Nat) : Prop := ∀ W, Chg (· = g) w W → ∀ x y : Nat, x < M → y < M →
  Calls Try.prog 113 #[.int .i64 x, .int .i64 y, cb] W fun e W' => e = .returned (.int .i64 (cmp3 (K x) (K y))) ∧ Chg NoB W W'
theorem CmpP.later {w w' : World} {g : Nat} {cb : Value} {K : Nat → Int} {M : Nat} (h : CmpP w g cb K M) (hc : Chg (· = g) w w') : CmpP w' g cb K M := fun W hW => h W (hc.trans hW)
abbrev RowB (w : World) (g : Nat) (rest : List Value) (L : List Nat) : Prop := Blk w g 3 (rowc L ++ rest).toArray
def RowP (w : World) (g : Nat) (rest : List Value) (L : List Nat) (e : Ending) (w' : World) : Prop := e = .returned (.tuple #[]) ∧ Chg (· = g) w w' ∧ RowB w' g rest L
section
variable {w : World} {g : Nat} {rest : List Value}
theorem RowB.at_ {P Q : List Nat} {x k : Nat} (h : RowB w g rest (P ++ x :: Q)) (hk : P.length = k) : w.cell? ⟨g, k, none⟩ = some (.int .i64 (x : Int)) := by
  unfold RowB at h
  rw [rowc_append, rowc_cons, List.append_assoc, List.cons_append] at h
  exact h.room (by rw [rowc_length, hk])
theorem RowB.put {P Q : List Nat} {x k : Nat} (h : RowB w g rest (P ++ x :: Q)) (hk : P.length = k) (y : Nat) : RowB (w.setCell ⟨g, k, none⟩ (.int .i64 (y : Int))) g rest (P ++ y :: Q) := by
  unfold RowB at h ⊢
  rw [rowc_append, rowc_cons, List.append_assoc, List.cons_append] at h ⊢
  exact h.fill1 (by rw [rowc_length, hk]) _
theorem RowB.fz {L : List Nat} (h : RowB w g rest L) (k : Nat) : w.frozen? ⟨g, k, none⟩ = false := Blk.frozen h k
/-- Two neighbours change places. -/
theorem RowB.swap {P Q : List Nat} {x y k : Nat} (h : RowB w g rest (P ++ x :: y :: Q)) (hk : P.length = k) :
    RowB ((w.setCell ⟨g, k + 1, none⟩ (.int .i64 (x : Int))).setCell ⟨g, k, none⟩ (.int .i64 (y : Int))) g rest (P ++ y :: x :: Q) := by
  have h1 : RowB w g rest ((P ++ [x]) ++ y :: Q) := by simpa using h
  have h2 := h1.put (k := k + 1) (by simp [hk]) x
  have h3 : RowB (w.setCell ⟨g, k + 1, none⟩ (.int .i64 (x : Int))) g rest (P ++ x :: (x :: Q)) := by simpa using h2
  exact h3.put hk y
end
theorem getD_split {S : List Nat} {p : Nat} (h : p < S.length) : S = S.take p ++ S.getD p 0 :: S.drop (p + 1) := by
  have e : S.getD p 0 = S[p] := by rw [List.getD_eq_getElem?_getD, List.getElem?_eq_getElem h]; rfl
  rw [e, ← List.drop_eq_getElem_cons h, List.take_append_drop]
/-- The number x stands at place p of what is sorted so far. -/
def insRow (P S : List Nat) (x p : Nat) (Y : List Nat) : List Nat := P ++ (S.take p ++ x :: (S.drop p ++ Y))
theorem insRow_step {P S Y : List Nat} {x p : Nat} (h : p < S.length) : insRow P S x (p + 1) Y = (P ++ S.take p) ++ S.getD p 0 :: x :: (S.drop (p + 1) ++ Y) ∧ insRow P S x p Y = (P ++ S.take p) ++ x :: S.getD p 0 :: (S.drop (p + 1) ++ Y) := by
  have e : S.getD p 0 = S[p] := by rw [List.getD_eq_getElem?_getD, List.getElem?_eq_getElem h]; rfl
  unfold insRow
  constructor
  · rw [List.take_succ_eq_append_getElem h, e]; simp only [List.append_assoc, List.cons_append, List.nil_append]
  · rw [List.drop_eq_getElem_cons h, e]; simp only [List.append_assoc, List.cons_append]
set_option maxRecDepth 100000 in
set_option maxHeartbeats 4000000 in
theorem insSort_any (w : World) (g c : Nat) (cb : Value) (K : Nat → Int) (M : Nat) (P X Q : List Nat) (rest : List Value) (lo hi n : Nat) (ha : P.length = lo) (hb : lo + X.length = hi) (hn : hi + Q.length = n) (hn' : n ≤ 1000)
    (hB : RowB w g rest (P ++ (X ++ Q))) (hM : ∀ x ∈ X, x < M) (hX : X.Pairwise (· < ·)) (hC : CmpP w g cb K M) :
    Calls Try.prog 166 #[.slice (some ⟨g, 0, none⟩) n c, .int .i64 (lo : Int), .int .i64 (hi : Int), .func (.func 113) #[] #[cb]] w (RowP w g rest (P ++ (srt K X ++ Q))) := by
  have HB := Lib.hid hB
  have HM := Lib.hid hM
  have HX := Lib.hid hX
  have HC := Lib.hid hC
  have HA := Lib.hid ha
  have HBL := Lib.hid hb
  have HN := Lib.hid hn
  clear hB hM hX hC ha hb hn
  have hab : lo ≤ hi := by have := HBL.out; omega
  have hbn : hi ≤ n := by have := HN.out; omega
  go_enter Try.func166, Try.ntmps166
  go_wp2_with fail
  go_loopw [8] (fun vi wr => ∃ k i : Nat, vi = .int .i64 (i : Int) ∧ 1 ≤ k ∧ i ≤ n + 1 ∧ Hid (i = lo + k) ∧ (k ≤ X.length ∨ k = 1) ∧ Chg (· = g) w wr ∧ RowB wr g rest (P ++ (srt K (X.take k) ++ (X.drop k ++ Q)))) (fun vi _ => n + 1 - (intOf vi).toNat)
  case atStart =>
    refine ⟨1, lo + 1, by go_num, Nat.le_refl _, by omega, Lib.hid rfl, .inr rfl, Chg.refl _ _, ?_⟩
    have e : srt K (X.take 1) = X.take 1 := srt_self (by cases X <;> simp [Srt])
    rw [e, ← List.append_assoc (X.take 1), List.take_append_drop]
    exact HB.out
  case round =>
    obtain ⟨k, i, rfl, hk1, hin, HI, hk, hch, hbl⟩ := hrel
    have HK := Lib.hid hk
    have HCH := Lib.hid hch
    have HBK := Lib.hid hbl
    clear hk hch hbl
    by_cases hlt : i < hi
    case neg =>
      have hlt' : ¬ ((i : Int) < (hi : Int)) := by omega
      go_wp2
      go_end0
      have e : X.length ≤ k := by have := HI.out; have := HBL.out; omega
      have h := HBK.out
      rw [List.take_of_length_le e, List.drop_of_length_le e, List.nil_append] at h
      exact ⟨rfl, HCH.out, h⟩
    have hlt' : ((i : Int) < (hi : Int)) := by omega
    have HKX := Lib.hid (show k < X.length by have := HI.out; have := HBL.out; omega)
    go_wp2_with fail
    obtain ⟨x, hx⟩ : ∃ x, X.getD k 0 = x := ⟨_, rfl⟩
    obtain ⟨S, hS⟩ : ∃ S, srt K (X.take k) = S := ⟨_, rfl⟩
    have HXE := Lib.hid hx
    have HSE := Lib.hid hS
    have HSL := Lib.hid (show S.length = k by rw [← hS, srt_length, List.length_take]; have := HKX.out; omega)
    have HXM := Lib.hid (show x < M by rw [← hx]; exact HM.out _ (getD_mem HKX.out))
    have HSM := Lib.hid (show ∀ y ∈ S, y < M from fun y hy => by rw [← hS, srt_mem] at hy; exact HM.out _ (List.mem_of_mem_take hy))
    have HST := Lib.hid (show RowB wr g rest (insRow P S x k (X.drop (k + 1) ++ Q)) by
      have h := HBK.out
      rw [hS] at h
      unfold insRow
      have e1 : S.take k = S := List.take_of_length_le (by have := HSL.out; omega)
      have e2 : S.drop k = [] := List.drop_of_length_le (by have := HSL.out; omega)
      have e3 : X.drop k = x :: X.drop (k + 1) := by rw [List.drop_eq_getElem_cons HKX.out, ← hx, List.getD_eq_getElem?_getD, List.getElem?_eq_getElem HKX.out]; rfl
      rw [e3] at h
      rw [e1, e2]
      simpa using h)
    have HNX := Lib.hid (show ∀ p, p ≤ k → (p = 0 ∨ ¬ K x < K (S.getD (p - 1) 0)) → (p = k ∨ K x < K (S.getD p 0)) → insRow P S x p (X.drop (k + 1) ++ Q) = P ++ (srt K (X.take (k + 1)) ++ (X.drop (k + 1) ++ Q)) from fun p hp h1 h2 => by
      have := srt_snoc (K := K) HX.out HKX.out hp (by rw [hx, hS]; exact h1) (by rw [hx, hS]; exact h2)
      rw [← this, hx, hS]
      unfold insRow
      simp)
    clear hx hS
    obtain ⟨w0, hw0⟩ : ∃ w0, wr = w0 := ⟨_, rfl⟩
    have HW0 := Lib.hid hw0
    rw [hw0] at HCH HST ⊢
    clear hw0 HBK
    go_loopw [9] (fun vj wr => ∃ p j : Nat, vj = .int .i64 (j : Int) ∧ j ≤ i ∧ lo ≤ j ∧ Hid (j = lo + p) ∧ Hid (p ≤ k) ∧ Chg (· = g) w wr ∧ RowB wr g rest (insRow P S x p (X.drop (k + 1) ++ Q)) ∧ Hid (p = k ∨ K x < K (S.getD p 0))) (fun vj _ => (intOf vj).toNat)
    case atStart => exact ⟨k, i, rfl, Nat.le_refl _, by have := HI.out; omega, HI, Lib.hid (Nat.le_refl _), HCH.out, HST.out, Lib.hid (.inl rfl)⟩
    case round =>
      obtain ⟨p, j, rfl, hji, haj, HJ, HP, hch, hbl, HQ⟩ := hrel
      by_cases hja : lo < j
      case neg =>
        have hja' : ¬ ((lo : Int) < (j : Int)) := by omega
        have hjn : j ≤ lo := by omega
        have HCH2 := Lib.hid hch
        have HBL2 := Lib.hid hbl
        clear hbl hja'
        obtain rfl : p = 0 := by have := HJ.out; omega
        clear hch
        go_wp2_with fail
        refine wp_region_ro (gl := [(3, some false)]) (WInv := fun _ _ w5 => Chg NoB wr w5) (R := Chg NoB) (Post := PV [some (.int .i64 (j : Int)), some (.int .i64 (lo : Int)), some (.bool false), some (.bool false), some (undef), some (undef), some (undef), some (undef), some (undef), some (undef), some (undef), some (undef), some (undef), some (undef), some (undef), some (undef), some (.bool false)]) (by kernel_rfl) (by kernel_rfl) (pv_guard (by intro p hp; simp only [List.mem_cons, List.not_mem_nil, or_false] at hp; rcases hp with rfl <;> rfl)) (fun _ _ _ _ h _ _ => h) (fun _ _ _ _ h _ => h) (Chg.refl _ _).drew ⟨?_, ?_, ?_, ?_, ?_, ?_, ?_, ?_, ?_, ?_, ?_, ?_, ?_, ?_, ?_, ?_, ?_, trivial⟩ ?_
        · rintro kc m a w5 hkc hch hm hn
          obtain ⟨e1, -⟩ := hn
          replace e1 : a.tmps[9]?.getD undef = .int .i64 (j : Int) := e1
          exact rg_val (v := .int .i64 (j : Int)) (by simp [execOp, go_sem, e1]) rfl hch (Chg.refl _ _) rfl
        · rintro kc m a w5 hkc hch hm hn
          obtain ⟨e1, -⟩ := hn
          replace e1 : a.tmps[1]?.getD undef = .int .i64 (lo : Int) := e1
          exact rg_val (v := .int .i64 (lo : Int)) (by simp [execOp, go_sem, e1]) rfl hch (Chg.refl _ _) rfl
        · rintro kc m a w5 hkc hch hm hn
          obtain ⟨⟨_, e1, _, rfl⟩, ⟨_, e2, _, rfl⟩, -⟩ := hn
          exact rg_val (v := .bool false) (by simp [execOp, go_sem, e1, e2, hjn]) rfl hch (Chg.refl _ _) rfl
        · rintro kc m a w5 hkc hch hm hn
          obtain ⟨⟨_, e1, _, rfl⟩, -⟩ := hn
          exact rg_val (v := .bool false) (by simp [execOp, go_sem, e1]) rfl hch (Chg.refl _ _) rfl
        · rintro kc m w5 hkc hch hm
          exact ⟨hch, Chg.refl _ _, rfl⟩
        · rintro kc m w5 hkc hch hm
          exact ⟨hch, Chg.refl _ _, rfl⟩
        · rintro kc m w5 hkc hch hm
          exact ⟨hch, Chg.refl _ _, rfl⟩
        · rintro kc m w5 hkc hch hm
          exact ⟨hch, Chg.refl _ _, rfl⟩
        · rintro kc m w5 hkc hch hm
          exact ⟨hch, Chg.refl _ _, rfl⟩
        · rintro kc m w5 hkc hch hm
          exact ⟨hch, Chg.refl _ _, rfl⟩
        · rintro kc m w5 hkc hch hm
          exact ⟨hch, Chg.refl _ _, rfl⟩
        · rintro kc m w5 hkc hch hm
          exact ⟨hch, Chg.refl _ _, rfl⟩
        · rintro kc m w5 hkc hch hm
          exact ⟨hch, Chg.refl _ _, rfl⟩
        · rintro kc m w5 hkc hch hm
          exact ⟨hch, Chg.refl _ _, rfl⟩
        · rintro kc m w5 hkc hch hm
          exact ⟨hch, Chg.refl _ _, rfl⟩
        · rintro kc m w5 hkc hch hm
          exact ⟨hch, Chg.refl _ _, rfl⟩
        · rintro kc m a w5 hkc hch hm hn
          obtain ⟨⟨_, e1, _, rfl⟩, ⟨_, e2, _, rfl⟩, -⟩ := hn
          exact rg_val (v := .bool false) (by simp [execOp, go_sem, e1, e2]) rfl hch (Chg.refl _ _) rfl
        rintro m w2 hc2
        simp only [AllVals]
        rintro v0 _ p0 v1 _ p1 v2 _ p2 v3 _ p3 v4 _ p4 v5 _ p5 v6 _ p6 v7 _ p7 v8 _ p8 v9 _ p9 v10 _ p10 v11 _ p11 v12 _ p12 v13 _ p13 v14 _ p14 v15 _ p15 v16 _ p16
        obtain rfl := p16
        clear p0 p1 p2 p3 p4 p5 p6 p7 p8 p9 p10 p11 p12 p13 p14 p15
        simp only [Act.put, List.setIfInBounds_toArray, List.set_cons_succ, List.set_cons_zero]
        have HC2 := Lib.hid hc2
        clear hc2
        have HBX := Lib.hid (HBL2.out.chg HC2.out (fun x => x))
        rw [HNX.out 0 (Nat.zero_le _) (.inl rfl) HQ.out] at HBX
        have HCX := Lib.hid (HCH2.out.trans (HC2.out.mono (fun _ _ x => x.elim)))
        clear HC2
        go_wp2
        go_roundw
        case rel => exact ⟨k + 1, i + 1, by go_num, by omega, by omega, Lib.hid (by have := HI.out; omega), .inl HKX.out, HCX.out, HBX.out⟩
        case measure => simp [intOf]; omega
      obtain ⟨q, rfl⟩ : ∃ q, p = q + 1 := ⟨p - 1, by have := HJ.out; omega⟩
      obtain ⟨jp, rfl⟩ : ∃ jp, j = jp + 1 := ⟨j - 1, by omega⟩
      have HJP := Lib.hid (show jp = lo + q by have := HJ.out; omega)
      have HQK := Lib.hid (show q < S.length by have := HP.out; have := HSL.out; omega)
      obtain ⟨y, hy⟩ : ∃ y, S.getD q 0 = y := ⟨_, rfl⟩
      have HYM := Lib.hid (show y < M by rw [← hy]; exact HSM.out _ (getD_mem HQK.out))
      rw [(insRow_step HQK.out).1, hy] at hbl
      have hpl : (P ++ S.take q).length = jp := by rw [List.length_append, List.length_take, HA.out, HJP.out]; have := HQK.out; omega
      have cp := hbl.at_ hpl
      have cj := RowB.at_ (P := P ++ S.take q ++ [y]) (k := jp + 1) (Q := S.drop (q + 1) ++ (X.drop (k + 1) ++ Q)) (x := x) (w := wr) (g := g) (rest := rest) (by simpa using hbl) (by rw [List.length_append, hpl]; rfl)
      have fp := hbl.fz jp
      have fj := hbl.fz (jp + 1)
      have HSW := Lib.hid (hbl.swap hpl)
      have HY := Lib.hid hy
      have HBL2 := Lib.hid hbl
      have HCC := Lib.hid (HC.out.later hch)
      have HCH2 := Lib.hid hch
      have hjz : (jp : Int) + 1 < (n : Int) := by omega
      have hjz1 : (jp : Int) < (n : Int) := by omega
      have hjz0 : (0 : Int) ≤ (jp : Int) := Int.natCast_nonneg _
      have haj' : (lo : Int) < (jp : Int) + 1 := by omega
      have hwp : IntKind.i64.wrap (jp : Int) = (jp : Int) := by rw [IntKind.wrap_i64]; omega
      have ej : ((jp : Int) + 1).toNat = jp + 1 := by omega
      clear hbl hy hpl
      by_cases hl : K x < K y
      case neg =>
        have hl0 : ¬ (cmp3 (K x) (K y) < 0) := fun h => hl (cmp3_lt.1 h)
        clear hch
        go_wp2_with fail
        refine wp_region_ro (gl := [(3, some true)]) (WInv := fun _ _ w5 => Chg NoB wr w5) (R := Chg NoB) (Post := PV [some (.int .i64 ((jp : Int) + 1)), some (.int .i64 (lo : Int)), some (.bool true), some (.bool true), some (.func (.func 113) #[] #[cb]), some (.slice (some ⟨g, 0, none⟩) n c), some (.int .i64 ((jp : Int) + 1)), some (.pointer (some ⟨g, jp + 1, none⟩)), some (.int .i64 (x : Int)), some (.slice (some ⟨g, 0, none⟩) n c), some (.int .i64 ((jp : Int) + 1)), some (.int .i64 (jp : Int)), some (.pointer (some ⟨g, jp, none⟩)), some (.int .i64 (y : Int)), some (.int .i64 (cmp3 (K x) (K y))), some (.bool false), some (.bool false)]) (by kernel_rfl) (by kernel_rfl) (pv_guard (by intro p hp; simp only [List.mem_cons, List.not_mem_nil, or_false] at hp; rcases hp with rfl <;> rfl)) (fun _ _ _ _ h _ _ => h) (fun _ _ _ _ h _ => h) (Chg.refl _ _).drew ⟨?_, ?_, ?_, ?_, ?_, ?_, ?_, ?_, ?_, ?_, ?_, ?_, ?_, ?_, ?_, ?_, ?_, trivial⟩ ?_
        · rintro kc m a w5 hkc hch hm hn
          obtain ⟨e1, -⟩ := hn
          replace e1 : a.tmps[9]?.getD undef = .int .i64 ((jp : Int) + 1) := e1
          exact rg_val (v := .int .i64 ((jp : Int) + 1)) (by simp [execOp, go_sem, e1]) rfl hch (Chg.refl _ _) rfl
        · rintro kc m a w5 hkc hch hm hn
          obtain ⟨e1, -⟩ := hn
          replace e1 : a.tmps[1]?.getD undef = .int .i64 (lo : Int) := e1
          exact rg_val (v := .int .i64 (lo : Int)) (by simp [execOp, go_sem, e1]) rfl hch (Chg.refl _ _) rfl
        · rintro kc m a w5 hkc hch hm hn
          obtain ⟨⟨_, e1, _, rfl⟩, ⟨_, e2, _, rfl⟩, -⟩ := hn
          exact rg_val (v := .bool true) (by simp [execOp, go_sem, e1, e2, haj']) rfl hch (Chg.refl _ _) rfl
        · rintro kc m a w5 hkc hch hm hn
          obtain ⟨⟨_, e1, _, rfl⟩, -⟩ := hn
          exact rg_val (v := .bool true) (by simp [execOp, go_sem, e1]) rfl hch (Chg.refl _ _) rfl
        · rintro kc m a w5 hkc hch hm hn
          obtain ⟨e1, -⟩ := hn
          replace e1 : a.tmps[3]?.getD undef = .func (.func 113) #[] #[cb] := e1
          exact rg_val (v := .func (.func 113) #[] #[cb]) (by simp [execOp, go_sem, e1]) rfl hch (Chg.refl _ _) rfl
        · rintro kc m a w5 hkc hch hm hn
          obtain ⟨e1, -⟩ := hn
          replace e1 : a.tmps[0]?.getD undef = .slice (some ⟨g, 0, none⟩) n c := e1
          exact rg_val (v := .slice (some ⟨g, 0, none⟩) n c) (by simp [execOp, go_sem, e1]) rfl hch (Chg.refl _ _) rfl
        · rintro kc m a w5 hkc hch hm hn
          obtain ⟨e1, -⟩ := hn
          replace e1 : a.tmps[9]?.getD undef = .int .i64 ((jp : Int) + 1) := e1
          exact rg_val (v := .int .i64 ((jp : Int) + 1)) (by simp [execOp, go_sem, e1]) rfl hch (Chg.refl _ _) rfl
        · rintro kc m a w5 hkc hch hm hn
          obtain ⟨⟨_, e1, _, rfl⟩, ⟨_, e2, _, rfl⟩, -⟩ := hn
          exact rg_val (v := .pointer (some ⟨g, jp + 1, none⟩)) (by simp [execOp, go_sem, e1, e2, ej]; exact fun hh => absurd hh (by omega)) rfl hch (Chg.refl _ _) rfl
        · rintro kc m a w5 hkc hch hm hn
          obtain ⟨⟨_, e1, _, rfl⟩, -⟩ := hn
          have c0 := Chg.cell hch cj (fun x => x)
          exact rg_val (v := .int .i64 (x : Int)) (by simp [execOp, go_sem, e1, c0]) rfl hch (Chg.refl _ _) rfl
        · rintro kc m a w5 hkc hch hm hn
          obtain ⟨e1, -⟩ := hn
          replace e1 : a.tmps[0]?.getD undef = .slice (some ⟨g, 0, none⟩) n c := e1
          exact rg_val (v := .slice (some ⟨g, 0, none⟩) n c) (by simp [execOp, go_sem, e1]) rfl hch (Chg.refl _ _) rfl
        · rintro kc m a w5 hkc hch hm hn
          obtain ⟨e1, -⟩ := hn
          replace e1 : a.tmps[9]?.getD undef = .int .i64 ((jp : Int) + 1) := e1
          exact rg_val (v := .int .i64 ((jp : Int) + 1)) (by simp [execOp, go_sem, e1]) rfl hch (Chg.refl _ _) rfl
        · rintro kc m a w5 hkc hch hm hn
          obtain ⟨⟨_, e1, _, rfl⟩, -⟩ := hn
          exact rg_val (v := .int .i64 (jp : Int)) (by simp [execOp, go_sem, e1, hwp]) rfl hch (Chg.refl _ _) rfl
        · rintro kc m a w5 hkc hch hm hn
          obtain ⟨⟨_, e1, _, rfl⟩, ⟨_, e2, _, rfl⟩, -⟩ := hn
          exact rg_val (v := .pointer (some ⟨g, jp, none⟩)) (by simp [execOp, go_sem, e1, e2]; exact fun hh => absurd hh (by omega)) rfl hch (Chg.refl _ _) rfl
        · rintro kc m a w5 hkc hch hm hn
          obtain ⟨⟨_, e1, _, rfl⟩, -⟩ := hn
          have c0 := Chg.cell hch cp (fun x => x)
          exact rg_val (v := .int .i64 (y : Int)) (by simp [execOp, go_sem, e1, c0]) rfl hch (Chg.refl _ _) rfl
        · rintro kc m a w5 hkc hch hm hn
          obtain ⟨⟨_, e1, _, rfl⟩, ⟨_, e2, _, rfl⟩, ⟨_, e3, _, rfl⟩, -⟩ := hn
          refine rg_call (f := 113) (args := #[.int .i64 (x : Int), .int .i64 (y : Int), cb]) (by simp [go_sem, e1, e2, e3]) rfl ?_
          refine (HCC.out _ (hch.mono (fun _ _ x => x.elim)) x y HXM.out HYM.out).mono ?_
          rintro e w6 ⟨rfl, hc6⟩
          exact ⟨_, rfl, hch.trans hc6, hc6, rfl⟩
        · rintro kc m a w5 hkc hch hm hn
          obtain ⟨⟨_, e1, _, rfl⟩, -⟩ := hn
          exact rg_val (v := .bool false) (by simp [execOp, go_sem, e1, hl0]) rfl hch (Chg.refl _ _) rfl
        · rintro kc m a w5 hkc hch hm hn
          obtain ⟨⟨_, e1, _, rfl⟩, ⟨_, e2, _, rfl⟩, -⟩ := hn
          exact rg_val (v := .bool false) (by simp [execOp, go_sem, e1, e2]) rfl hch (Chg.refl _ _) rfl
        rintro m w2 hc2
        simp only [AllVals]
        rintro v0 _ p0 v1 _ p1 v2 _ p2 v3 _ p3 v4 _ p4 v5 _ p5 v6 _ p6 v7 _ p7 v8 _ p8 v9 _ p9 v10 _ p10 v11 _ p11 v12 _ p12 v13 _ p13 v14 _ p14 v15 _ p15 v16 _ p16
        obtain rfl := p16
        clear p0 p1 p2 p3 p4 p5 p6 p7 p8 p9 p10 p11 p12 p13 p14 p15
        simp only [Act.put, List.setIfInBounds_toArray, List.set_cons_succ, List.set_cons_zero]
        have HC2 := Lib.hid hc2
        clear hc2
        have hbx := HBL2.out.chg (F := NoB) HC2.out (fun x => x)
        rw [← HY.out, ← (insRow_step (x := x) HQK.out).1, HNX.out (q + 1) HP.out (.inr (by rw [Nat.add_sub_cancel, HY.out]; exact hl)) HQ.out] at hbx
        have HBX := Lib.hid hbx
        have HCX := Lib.hid (HCH2.out.trans (HC2.out.mono (fun _ _ x => x.elim)))
        clear HC2 hbx ej hwp
        go_wp2
        go_roundw
        case rel => exact ⟨k + 1, i + 1, by go_num, by omega, by omega, Lib.hid (by have := HI.out; omega), .inl HKX.out, HCX.out, HBX.out⟩
        case measure => simp [intOf]; omega
      have hl0 : cmp3 (K x) (K y) < 0 := cmp3_lt.2 hl
      clear hch
      go_wp2_with fail
      refine wp_region_ro (gl := [(3, some true)]) (WInv := fun _ _ w5 => Chg NoB wr w5) (R := Chg NoB) (Post := PV [some (.int .i64 ((jp : Int) + 1)), some (.int .i64 (lo : Int)), some (.bool true), some (.bool true), some (.func (.func 113) #[] #[cb]), some (.slice (some ⟨g, 0, none⟩) n c), some (.int .i64 ((jp : Int) + 1)), some (.pointer (some ⟨g, jp + 1, none⟩)), some (.int .i64 (x : Int)), some (.slice (some ⟨g, 0, none⟩) n c), some (.int .i64 ((jp : Int) + 1)), some (.int .i64 (jp : Int)), some (.pointer (some ⟨g, jp, none⟩)), some (.int .i64 (y : Int)), some (.int .i64 (cmp3 (K x) (K y))), some (.bool true), some (.bool true)]) (by kernel_rfl) (by kernel_rfl) (pv_guard (by intro p hp; simp only [List.mem_cons, List.not_mem_nil, or_false] at hp; rcases hp with rfl <;> rfl)) (fun _ _ _ _ h _ _ => h) (fun _ _ _ _ h _ => h) (Chg.refl _ _).drew ⟨?_, ?_, ?_, ?_, ?_, ?_, ?_, ?_, ?_, ?_, ?_, ?_, ?_, ?_, ?_, ?_, ?_, trivial⟩ ?_
      · rintro kc m a w5 hkc hch hm hn
        obtain ⟨e1, -⟩ := hn
        replace e1 : a.tmps[9]?.getD undef = .int .i64 ((jp : Int) + 1) := e1
        exact rg_val (v := .int .i64 ((jp : Int) + 1)) (by simp [execOp, go_sem, e1]) rfl hch (Chg.refl _ _) rfl
      · rintro kc m a w5 hkc hch hm hn
        obtain ⟨e1, -⟩ := hn
        replace e1 : a.tmps[1]?.getD undef = .int .i64 (lo : Int) := e1
        exact rg_val (v := .int .i64 (lo : Int)) (by simp [execOp, go_sem, e1]) rfl hch (Chg.refl _ _) rfl
      · rintro kc m a w5 hkc hch hm hn
        obtain ⟨⟨_, e1, _, rfl⟩, ⟨_, e2, _, rfl⟩, -⟩ := hn
        exact rg_val (v := .bool true) (by simp [execOp, go_sem, e1, e2, haj']) rfl hch (Chg.refl _ _) rfl
      · rintro kc m a w5 hkc hch hm hn
        obtain ⟨⟨_, e1, _, rfl⟩, -⟩ := hn
        exact rg_val (v := .bool true) (by simp [execOp, go_sem, e1]) rfl hch (Chg.refl _ _) rfl
      · rintro kc m a w5 hkc hch hm hn
        obtain ⟨e1, -⟩ := hn
        replace e1 : a.tmps[3]?.getD undef = .func (.func 113) #[] #[cb] := e1
        exact rg_val (v := .func (.func 113) #[] #[cb]) (by simp [execOp, go_sem, e1]) rfl hch (Chg.refl _ _) rfl
      · rintro kc m a w5 hkc hch hm hn
        obtain ⟨e1, -⟩ := hn
        replace e1 : a.tmps[0]?.getD undef = .slice (some ⟨g, 0, none⟩) n c := e1
        exact rg_val (v := .slice (some ⟨g, 0, none⟩) n c) (by simp [execOp, go_sem, e1]) rfl hch (Chg.refl _ _) rfl
      · rintro kc m a w5 hkc hch hm hn
        obtain ⟨e1, -⟩ := hn
        replace e1 : a.tmps[9]?.getD undef = .int .i64 ((jp : Int) + 1) := e1
        exact rg_val (v := .int .i64 ((jp : Int) + 1)) (by simp [execOp, go_sem, e1]) rfl hch (Chg.refl _ _) rfl
      · rintro kc m a w5 hkc hch hm hn
        obtain ⟨⟨_, e1, _, rfl⟩, ⟨_, e2, _, rfl⟩, -⟩ := hn
        exact rg_val (v := .pointer (some ⟨g, jp + 1, none⟩)) (by simp [execOp, go_sem, e1, e2, ej]; exact fun hh => absurd hh (by omega)) rfl hch (Chg.refl _ _) rfl
      · rintro kc m a w5 hkc hch hm hn
        obtain ⟨⟨_, e1, _, rfl⟩, -⟩ := hn
        have c0 := Chg.cell hch cj (fun x => x)
        exact rg_val (v := .int .i64 (x : Int)) (by simp [execOp, go_sem, e1, c0]) rfl hch (Chg.refl _ _) rfl
      · rintro kc m a w5 hkc hch hm hn
        obtain ⟨e1, -⟩ := hn
        replace e1 : a.tmps[0]?.getD undef = .slice (some ⟨g, 0, none⟩) n c := e1
        exact rg_val (v := .slice (some ⟨g, 0, none⟩) n c) (by simp [execOp, go_sem, e1]) rfl hch (Chg.refl _ _) rfl
      · rintro kc m a w5 hkc hch hm hn
        obtain ⟨e1, -⟩ := hn
        replace e1 : a.tmps[9]?.getD undef = .int .i64 ((jp : Int) + 1) := e1
        exact rg_val (v := .int .i64 ((jp : Int) + 1)) (by simp [execOp, go_sem, e1]) rfl hch (Chg.refl _ _) rfl
      · rintro kc m a w5 hkc hch hm hn
        obtain ⟨⟨_, e1, _, rfl⟩, -⟩ := hn
        exact rg_val (v := .int .i64 (jp : Int)) (by simp [execOp, go_sem, e1, hwp]) rfl hch (Chg.refl _ _) rfl
      · rintro kc m a w5 hkc hch hm hn
        obtain ⟨⟨_, e1, _, rfl⟩, ⟨_, e2, _, rfl⟩, -⟩ := hn
        exact rg_val (v := .pointer (some ⟨g, jp, none⟩)) (by simp [execOp, go_sem, e1, e2]; exact fun hh => absurd hh (by omega)) rfl hch (Chg.refl _ _) rfl
      · rintro kc m a w5 hkc hch hm hn
        obtain ⟨⟨_, e1, _, rfl⟩, -⟩ := hn
        have c0 := Chg.cell hch cp (fun x => x)
        exact rg_val (v := .int .i64 (y : Int)) (by simp [execOp, go_sem, e1, c0]) rfl hch (Chg.refl _ _) rfl
      · rintro kc m a w5 hkc hch hm hn
        obtain ⟨⟨_, e1, _, rfl⟩, ⟨_, e2, _, rfl⟩, ⟨_, e3, _, rfl⟩, -⟩ := hn
        refine rg_call (f := 113) (args := #[.int .i64 (x : Int), .int .i64 (y : Int), cb]) (by simp [go_sem, e1, e2, e3]) rfl ?_
        refine (HCC.out _ (hch.mono (fun _ _ x => x.elim)) x y HXM.out HYM.out).mono ?_
        rintro e w6 ⟨rfl, hc6⟩
        exact ⟨_, rfl, hch.trans hc6, hc6, rfl⟩
      · rintro kc m a w5 hkc hch hm hn
        obtain ⟨⟨_, e1, _, rfl⟩, -⟩ := hn
        exact rg_val (v := .bool true) (by simp [execOp, go_sem, e1, hl0]) rfl hch (Chg.refl _ _) rfl
      · rintro kc m a w5 hkc hch hm hn
        obtain ⟨⟨_, e1, _, rfl⟩, ⟨_, e2, _, rfl⟩, -⟩ := hn
        exact rg_val (v := .bool true) (by simp [execOp, go_sem, e1, e2]) rfl hch (Chg.refl _ _) rfl
      rintro m w2 hc2
      simp only [AllVals]
      rintro v0 _ p0 v1 _ p1 v2 _ p2 v3 _ p3 v4 _ p4 v5 _ p5 v6 _ p6 v7 _ p7 v8 _ p8 v9 _ p9 v10 _ p10 v11 _ p11 v12 _ p12 v13 _ p13 v14 _ p14 v15 _ p15 v16 _ p16
      obtain rfl := p16
      clear p0 p1 p2 p3 p4 p5 p6 p7 p8 p9 p10 p11 p12 p13 p14 p15
      simp only [Act.put, List.setIfInBounds_toArray, List.set_cons_succ, List.set_cons_zero]
      have HC2 := Lib.hid hc2
      clear hc2
      have hbs := RowB.swap (HBL2.out.chg (F := NoB) HC2.out (fun x => x)) (P := P ++ S.take q) (k := jp) (by rw [List.length_append, List.length_take, HA.out, HJP.out]; have := HQK.out; omega)
      rw [← HY.out, ← (insRow_step (x := x) HQK.out).2] at hbs
      have HBS := Lib.hid (show RowB ((w2.setCell ⟨g, jp + 1, none⟩ (.int .i64 (y : Int))).setCell ⟨g, jp, none⟩ (.int .i64 (x : Int))) g rest _ from by rw [← HY.out]; exact hbs)
      have HCX := Lib.hid (HCH2.out.trans (HC2.out.mono (fun _ _ x => x.elim)))
      have cp2 := HC2.out.cell cp (fun x => x)
      have cj2 := HC2.out.cell cj (fun x => x)
      have fp2 := RowB.fz (HBL2.out.chg (F := NoB) HC2.out (fun x => x)) jp
      have fj2 := RowB.fz (HBL2.out.chg (F := NoB) HC2.out (fun x => x)) (jp + 1)
      clear HC2 hbs cp cj fp fj hl0 hwp
      have hsub : (jp : Int) + 1 - 1 = (jp : Int) := by omega
      go_wp2
      go_region
      go_wp2
      go_roundw
      case rel => exact ⟨q, jp, by go_num, by omega, by omega, HJP, Lib.hid (by have := HP.out; omega), ((HCX.out.setCell (p := ⟨g, jp + 1, none⟩) (.inl rfl) _).setCell (p := ⟨g, jp, none⟩) (.inl rfl) _).drew, Blk.chg HBS.out ((Chg.refl NoB _).drew) (fun x => x), Lib.hid (.inr (by rw [HY.out]; exact hl))⟩
      case measure => simp [intOf]
end Go.Proofs.Ytpiojofmflfkkaa
/- The exchange of two ranges of a row, and the rotation of two neighbouring ranges. -/
namespace Go.Proofs.Ytpiojofmflfkkaa
open Go.RowKit
theorem RowB.ends {w : World} {g : Nat} {rest : List Value} {P M Q : List Nat} {x y k l : Nat} (h : RowB w g rest (P ++ x :: (M ++ y :: Q))) (hk : P.length = k) (hl : k + 1 + M.length = l) :
    w.cell? ⟨g, k, none⟩ = some (.int .i64 (x : Int)) ∧ w.cell? ⟨g, l, none⟩ = some (.int .i64 (y : Int)) ∧
      RowB ((w.setCell ⟨g, k, none⟩ (.int .i64 (y : Int))).setCell ⟨g, l, none⟩ (.int .i64 (x : Int))) g rest (P ++ y :: (M ++ x :: Q)) := by
  refine ⟨h.at_ hk, ?_, ?_⟩
  · have h1 : RowB w g rest ((P ++ x :: M) ++ y :: Q) := by simpa using h
    exact h1.at_ (by simp; omega)
  · have h1 := h.put hk y
    have h2 : RowB (w.setCell ⟨g, k, none⟩ (.int .i64 (y : Int))) g rest ((P ++ y :: M) ++ y :: Q) := by simpa using h1
    have h3 := h2.put (k := l) (by simp; omega) x
    simpa using h3
def swRow (P X M Y Q : List Nat) (i : Nat) : List Nat := P ++ ((Y.take i ++ X.drop i) ++ (M ++ ((X.take i ++ Y.drop i) ++ Q)))
theorem swRow_step {P X M Y Q : List Nat} {i : Nat} (hx : i < X.length) (hy : i < Y.length) :
    swRow P X M Y Q i = (P ++ Y.take i) ++ X.getD i 0 :: ((X.drop (i + 1) ++ (M ++ X.take i)) ++ Y.getD i 0 :: (Y.drop (i + 1) ++ Q)) ∧
      swRow P X M Y Q (i + 1) = (P ++ Y.take i) ++ Y.getD i 0 :: ((X.drop (i + 1) ++ (M ++ X.take i)) ++ X.getD i 0 :: (Y.drop (i + 1) ++ Q)) := by
  have e : X.getD i 0 = X[i] := by rw [List.getD_eq_getElem?_getD, List.getElem?_eq_getElem hx]; rfl
  have f : Y.getD i 0 = Y[i] := by rw [List.getD_eq_getElem?_getD, List.getElem?_eq_getElem hy]; rfl
  unfold swRow
  rw [e, f]
  constructor
  · rw [List.drop_eq_getElem_cons hx, List.drop_eq_getElem_cons hy]; simp only [List.append_assoc, List.cons_append]
  · rw [List.take_succ_eq_append_getElem hx, List.take_succ_eq_append_getElem hy]; simp only [List.append_assoc, List.cons_append, List.nil_append]
set_option maxRecDepth 100000 in
set_option maxHeartbeats 4000000 in
theorem swapR_any (w : World) (g c : Nat) (fv : Value) (P X M Y Q : List Nat) (rest : List Value) (lo hi d n : Nat) (ha : P.length = lo) (hx : X.length = d) (hy : Y.length = d) (hb : lo + d + M.length = hi) (hn : hi + d + Q.length = n) (hn' : n ≤ 1000)
    (hB : RowB w g rest (P ++ (X ++ (M ++ (Y ++ Q))))) :
    Calls Try.prog 185 #[.slice (some ⟨g, 0, none⟩) n c, .int .i64 (lo : Int), .int .i64 (hi : Int), .int .i64 (d : Int), fv] w (RowP w g rest (P ++ (Y ++ (M ++ (X ++ Q))))) := by
  have HB := Lib.hid hB
  have HA := Lib.hid ha
  have HX := Lib.hid hx
  have HY := Lib.hid hy
  have HBL := Lib.hid hb
  have HN := Lib.hid hn
  have hh : hi + d ≤ n := by omega
  have hl : lo + d ≤ hi := by omega
  clear hB ha hx hy hb hn
  go_enter Try.func185, Try.ntmps185
  go_wp2_with fail
  go_loopw [10] (fun vi wr => ∃ i : Nat, vi = .int .i64 (i : Int) ∧ i ≤ d ∧ Chg (· = g) w wr ∧ RowB wr g rest (swRow P X M Y Q i)) (fun vi _ => d - (intOf vi).toNat)
  case atStart => exact ⟨0, rfl, Nat.zero_le _, Chg.refl _ _, by unfold swRow; simpa using HB.out⟩
  case round =>
    obtain ⟨i, rfl, hid, hch, hbl⟩ := hrel
    have HCH := Lib.hid hch
    clear hch
    by_cases hlt : i < d
    case neg =>
      have hlt' : ¬ ((i : Int) < (d : Int)) := by omega
      have HBK := Lib.hid hbl
      clear hbl
      go_wp2
      go_end0
      have h := HBK.out
      unfold swRow at h
      have e1 : X.take i = X := List.take_of_length_le (by have := HX.out; omega)
      have e2 : Y.take i = Y := List.take_of_length_le (by have := HY.out; omega)
      have e3 : X.drop i = [] := List.drop_of_length_le (by have := HX.out; omega)
      have e4 : Y.drop i = [] := List.drop_of_length_le (by have := HY.out; omega)
      rw [e1, e2, e3, e4] at h
      exact ⟨rfl, HCH.out, by simpa using h⟩
    have hlt' : ((i : Int) < (d : Int)) := by omega
    obtain ⟨e1, e2⟩ := swRow_step (P := P) (X := X) (M := M) (Y := Y) (Q := Q) (i := i) (by have := HX.out; omega) (by have := HY.out; omega)
    have HE2 := Lib.hid e2
    rw [e1] at hbl
    obtain ⟨x, hx⟩ : ∃ x, X.getD i 0 = x := ⟨_, rfl⟩
    obtain ⟨y, hy⟩ : ∃ y, Y.getD i 0 = y := ⟨_, rfl⟩
    rw [hx, hy] at hbl HE2
    obtain ⟨cx, cy, hsw⟩ := hbl.ends (k := lo + i) (l := hi + i) (by rw [List.length_append, List.length_take, HA.out, HY.out]; omega) (by have := HX.out; have := HBL.out; simp; omega)
    have fx := hbl.fz (lo + i)
    have fy := hbl.fz (hi + i)
    rw [← HE2.out] at hsw
    have HSW := Lib.hid hsw
    clear e1 e2 hx hy hsw hbl HE2
    have p0 : (0 : Int) ≤ (lo : Int) + (i : Int) := by omega
    have p1 : (0 : Int) ≤ (hi : Int) + (i : Int) := by omega
    have p2 : (lo : Int) + (i : Int) < (n : Int) := by omega
    have p3 : (hi : Int) + (i : Int) < (n : Int) := by omega
    have q1 : IntKind.i64.wrap ((lo : Int) + (i : Int)) = (lo : Int) + (i : Int) := by rw [IntKind.wrap_i64]; omega
    have q2 : IntKind.i64.wrap ((hi : Int) + (i : Int)) = (hi : Int) + (i : Int) := by rw [IntKind.wrap_i64]; omega
    have r1 : ((lo : Int) + (i : Int)).toNat = lo + i := by omega
    have r2 : ((hi : Int) + (i : Int)).toNat = hi + i := by omega
    go_wp2_with fail
    go_region
    go_wp2
    go_roundw
    case rel => exact ⟨i + 1, by go_num, by omega, ((HCH.out.setCell (p := ⟨g, lo + i, none⟩) (.inl rfl) _).setCell (p := ⟨g, hi + i, none⟩) (.inl rfl) _).drew, Blk.chg HSW.out ((Chg.refl NoB _).drew) (fun x => x)⟩
    case measure => simp [intOf]; omega
theorem swapR_at (w : World) (g c : Nat) (fv : Value) (P X M Y Q : List Nat) (rest : List Value) (lo hi d n : Nat) (z1 z2 : Int) (h1 : z1 = (lo : Int)) (h2 : z2 = (hi : Int)) (ha : P.length = lo) (hx : X.length = d) (hy : Y.length = d) (hb : lo + d + M.length = hi) (hn : hi + d + Q.length = n) (hn' : n ≤ 1000)
    (hB : RowB w g rest (P ++ (X ++ (M ++ (Y ++ Q))))) :
    Calls Try.prog 185 #[.slice (some ⟨g, 0, none⟩) n c, .int .i64 z1, .int .i64 z2, .int .i64 (d : Int), fv] w (RowP w g rest (P ++ (Y ++ (M ++ (X ++ Q))))) := by
  subst h1 h2
  exact swapR_any w g c fv P X M Y Q rest lo hi d n ha hx hy hb hn hn' hB
set_option maxRecDepth 100000 in
set_option maxHeartbeats 4000000 in
theorem rotate_any (w : World) (g c : Nat) (fv : Value) (P U V Q : List Nat) (rest : List Value) (lo md hi n : Nat) (ha : P.length = lo) (hu : lo + U.length = md) (hv : md + V.length = hi) (hn : hi + Q.length = n) (hn' : n ≤ 1000) (hu1 : 1 ≤ U.length) (hv1 : 1 ≤ V.length)
    (hB : RowB w g rest (P ++ (U ++ (V ++ Q)))) :
    Calls Try.prog 179 #[.slice (some ⟨g, 0, none⟩) n c, .int .i64 (lo : Int), .int .i64 (md : Int), .int .i64 (hi : Int), fv] w (RowP w g rest (P ++ (V ++ (U ++ Q)))) := by
  obtain ⟨T, hT⟩ : ∃ T, P ++ (V ++ (U ++ Q)) = T := ⟨_, rfl⟩
  have HB := Lib.hid hB
  have HA := Lib.hid ha
  have HU := Lib.hid hu
  have HV := Lib.hid hv
  have HN := Lib.hid hn
  have HT := Lib.hid hT
  have HU1 := Lib.hid hu1
  have HV1 := Lib.hid hv1
  rw [hT]
  have h1 : lo ≤ md := by omega
  have h2 : md ≤ hi := by omega
  have h3 : hi ≤ n := by omega
  clear hB ha hu hv hn hT hu1 hv1
  go_enter Try.func179, Try.ntmps179
  go_wp2_with fail
  go_loopw [10, 11] (fun vi vj wr => ∃ (i j : Nat) (P U V Q : List Nat), vi = .int .i64 (i : Int) ∧ vj = .int .i64 (j : Int) ∧ 1 ≤ i ∧ 1 ≤ j ∧ i ≤ md ∧ md + j ≤ n ∧ Hid (U.length = i) ∧ Hid (V.length = j) ∧ Hid (P.length + i = md) ∧ Hid (md + j + Q.length = n) ∧ Hid (P ++ (V ++ (U ++ Q)) = T) ∧ Chg (· = g) w wr ∧ RowB wr g rest (P ++ (U ++ (V ++ Q)))) (fun vi vj _ => (intOf vi).toNat + (intOf vj).toNat)
  case atStart => exact ⟨md - lo, hi - md, P, U, V, Q, by go_num, by go_num, by have := HU.out; have := HU1.out; omega, by have := HV.out; have := HV1.out; omega, by omega, by omega, Lib.hid (by have := HU.out; omega), Lib.hid (by have := HV.out; omega), Lib.hid (by have := HA.out; omega), Lib.hid (by have := HN.out; omega), HT, Chg.refl _ _, HB.out⟩
  case round =>
    obtain ⟨i, j, P, U, V, Q, rfl, rfl, hi1, hj1, him, hjn, HU, HV, HP, HQ, HT, hch, hbl⟩ := hrel
    have HCH := Lib.hid hch
    have HBL := Lib.hid hbl
    clear hch hbl
    by_cases hij : i = j
    · subst hij
      have hne : ((i : Int) != (i : Int)) = false := by simp
      go_wp2_with fail
      refine (swapR_at _ g c fv P U [] V Q rest (md - i) md i n _ _ (by omega) rfl (by have := HP.out; omega) HU.out HV.out (by simp; omega) HQ.out hn' (by simpa using HBL.out)).mono ?_
      rintro e w2 ⟨rfl, hc2, hb2⟩
      have HC2 := Lib.hid (HCH.out.trans hc2)
      have HB2 := Lib.hid hb2
      clear hc2 hb2
      go_wp2
      go_end0
      refine ⟨rfl, HC2.out, ?_⟩
      rw [← HT.out]
      simpa using HB2.out
    have hne : ((i : Int) != (j : Int)) = true := by rw [bne_iff_ne]; omega
    by_cases hgt : j < i
    · have hgt' : ((i : Int) > (j : Int)) := by omega
      go_wp2_with fail
      have hu : ∀ R, U ++ R = U.take j ++ (U.drop j ++ R) := fun R => by rw [← List.append_assoc, List.take_append_drop]
      have h1 : (U.take j).length = j := by rw [List.length_take, HU.out]; omega
      have h2 : (U.drop j).length = i - j := by rw [List.length_drop, HU.out]
      refine (swapR_at _ g c fv P (U.take j) (U.drop j) V Q rest (md - i) md j n _ _ (by omega) rfl (by have := HP.out; omega) h1 HV.out (by rw [h2]; omega) HQ.out hn' (by have h := HBL.out; rw [hu] at h; exact h)).mono ?_
      rintro e w2 ⟨rfl, hc2, hb2⟩
      have HC2 := Lib.hid (HCH.out.trans hc2)
      have HB2 := Lib.hid hb2
      have HH1 := Lib.hid h1
      have HH2 := Lib.hid h2
      have HUU := Lib.hid hu
      clear hc2 hb2 hu h1 h2
      go_wp2
      go_roundw
      case rel => exact ⟨i - j, j, P ++ V, U.drop j, U.take j, Q, by go_num, rfl, by omega, hj1, by omega, hjn, HH2, HH1, Lib.hid (by have := HP.out; have := HV.out; simp; omega), HQ, Lib.hid (by rw [← HT.out, HUU.out]; simp), HC2.out, by simpa using HB2.out⟩
      case measure => simp [intOf]; omega
    · have hgt' : ¬ ((i : Int) > (j : Int)) := by omega
      go_wp2_with fail
      have hv : ∀ R, V ++ R = V.take (j - i) ++ (V.drop (j - i) ++ R) := fun R => by rw [← List.append_assoc, List.take_append_drop]
      have h1 : (V.take (j - i)).length = j - i := by rw [List.length_take, HV.out]; omega
      have h2 : (V.drop (j - i)).length = i := by rw [List.length_drop, HV.out]; omega
      refine (swapR_at _ g c fv P U (V.take (j - i)) (V.drop (j - i)) Q rest (md - i) (md + j - i) i n _ _ (by omega) (by omega) (by have := HP.out; omega) HU.out h2 (by rw [h1]; omega) (by have := HQ.out; omega) hn' (by have h := HBL.out; rw [hv] at h; exact h)).mono ?_
      rintro e w2 ⟨rfl, hc2, hb2⟩
      have HC2 := Lib.hid (HCH.out.trans hc2)
      have HB2 := Lib.hid hb2
      have HH1 := Lib.hid h1
      have HH2 := Lib.hid h2
      have HVV := Lib.hid hv
      clear hc2 hb2 hv h1 h2
      go_wp2
      go_roundw
      case rel => exact ⟨i, j - i, P, V.drop (j - i), V.take (j - i), U ++ Q, rfl, by go_num, hi1, by omega, him, by omega, HH2, HH1, HP, Lib.hid (by have := HQ.out; have := HU.out; simp; omega), Lib.hid (by rw [← HT.out, HVV.out]), HC2.out, by simpa using HB2.out⟩
      case measure => simp [intOf]; omega
end Go.Proofs.Ytpiojofmflfkkaa
/- symMerge, where one of the two parts has one number. -/
namespace Go.Proofs.Ytpiojofmflfkkaa
open Go.RowKit
theorem getD_app_left {P R : List Nat} {k : Nat} (h : k < P.length) : (P ++ R).getD k 0 = P.getD k 0 := by
  rw [List.getD_eq_getElem?_getD, List.getD_eq_getElem?_getD, List.getElem?_append_left h]
theorem getD_app_right {P R : List Nat} {k l : Nat} (h : P.length + l = k) : (P ++ R).getD k 0 = R.getD l 0 := by
  rw [List.getD_eq_getElem?_getD, List.getD_eq_getElem?_getD, List.getElem?_append_right (by omega)]
  congr 2; omega
theorem RowB.get {w : World} {g : Nat} {rest : List Value} {L : List Nat} {k : Nat} (h : RowB w g rest L) (hk : k < L.length) : w.cell? ⟨g, k, none⟩ = some (.int .i64 (L.getD k 0 : Nat)) := by
  rw [getD_split hk] at h
  have h1 := h.at_ (k := k) (by rw [List.length_take]; omega)
  exact h1
set_option maxRecDepth 100000 in
set_option maxHeartbeats 4000000 in
theorem symL_any (w : World) (g c : Nat) (cb : Value) (K : Nat → Int) (M : Nat) (P V Q : List Nat) (x : Nat) (rest : List Value) (lo md hi n : Nat) (ha : P.length = lo) (hu : lo + 1 = md) (hv : md + V.length = hi) (hn : hi + Q.length = n) (hn' : n ≤ 1000) (hv1 : 1 ≤ V.length)
    (hB : RowB w g rest (P ++ (x :: (V ++ Q)))) (hV : Srt K V) (hX : ∀ y ∈ V, K x = K y → x ≤ y) (hxM : x < M) (hVM : ∀ y ∈ V, y < M) (hC : CmpP w g cb K M) :
    Calls Try.prog 167 #[.slice (some ⟨g, 0, none⟩) n c, .int .i64 (lo : Int), .int .i64 (md : Int), .int .i64 (hi : Int), .func (.func 113) #[] #[cb]] w (RowP w g rest (P ++ (srt K (x :: V) ++ Q))) := by
  have HB := Lib.hid hB
  have HA := Lib.hid ha
  have HU := Lib.hid hu
  have HV := Lib.hid hv
  have HN := Lib.hid hn
  have HSV := Lib.hid hV
  have HX := Lib.hid hX
  have HXM := Lib.hid hxM
  have HVM := Lib.hid hVM
  have HC := Lib.hid hC
  have h1 : lo < md := by omega
  have h2 : md < hi := by omega
  have h3 : hi ≤ n := by omega
  have t1 : ((md : Int) - (lo : Int) == 1) = true := by rw [beq_iff_eq]; omega
  clear hB ha hu hv hn hV hX hxM hVM hC hv1
  go_enter Try.func167, Try.ntmps167
  go_wp2_with fail
  go_loopw [10, 11] (fun vi vj wr => ∃ (i j : Nat), vi = .int .i64 (i : Int) ∧ vj = .int .i64 (j : Int) ∧ md ≤ i ∧ i ≤ j ∧ j ≤ hi ∧ Hid (i = md ∨ K (V.getD (i - md - 1) 0) < K x) ∧ Hid (j = hi ∨ K x ≤ K (V.getD (j - md) 0)) ∧ Chg (· = g) w wr ∧ RowB wr g rest (P ++ (x :: (V ++ Q)))) (fun vi vj _ => (intOf vj).toNat - (intOf vi).toNat)
  case atStart => exact ⟨md, hi, rfl, rfl, Nat.le_refl _, by omega, Nat.le_refl _, Lib.hid (.inl rfl), Lib.hid (.inl rfl), Chg.refl _ _, HB.out⟩
  case round =>
    obtain ⟨i, j, rfl, rfl, hi1, hj1, hj2, HI, HJ, hch, hbl⟩ := hrel
    by_cases hlt : i < j
    · have hlt' : ((i : Int) < (j : Int)) := by omega
      have p1 : (0 : Int) ≤ (i : Int) + (j : Int) := by omega
      go_wp2_with fail
      obtain ⟨h, hh⟩ : ∃ h : Nat, ((i : Int) + (j : Int)) / 2 = (h : Int) := ⟨(i + j) / 2, by omega⟩
      have HH := Lib.hid hh
      rw [hh]
      have b1 : i ≤ h := by omega
      have b2 : h < j := by omega
      have HVL := Lib.hid (show h - md < V.length by have := HV.out; omega)
      clear hh p1
      obtain ⟨y, hy⟩ : ∃ y, V.getD (h - md) 0 = y := ⟨_, rfl⟩
      have HYM := Lib.hid (show y < M by rw [← hy]; exact HVM.out _ (getD_mem HVL.out))
      have HYE := Lib.hid hy
      have cx := hbl.at_ HA.out
      have cy := hbl.get (k := h) (by have := HA.out; have := HU.out; have := HVL.out; simp; omega)
      rw [getD_app_right (l := h - lo) (by have := HA.out; omega), show h - lo = (h - md) + 1 by have := HU.out; omega, List.getD_cons_succ, getD_app_left HVL.out, hy] at cy
      have HBL2 := Lib.hid hbl
      have HCC := Lib.hid (HC.out.later hch)
      have HCH2 := Lib.hid hch
      have z0 : (0 : Int) ≤ (h : Int) := Int.natCast_nonneg _
      have z1 : (h : Int) < (n : Int) := by omega
      have z2 : (lo : Int) < (n : Int) := by omega
      clear hbl hy
      by_cases hl : K y < K x
      · have hl0 : cmp3 (K y) (K x) < 0 := cmp3_lt.2 hl
        clear hch
        go_wp2_with fail
        refine wp_region_ro (gl := []) (WInv := fun _ _ w5 => Chg NoB wr w5) (R := Chg NoB) (Post := PV [some (.func (.func 113) #[] #[cb]), some (.slice (some ⟨g, 0, none⟩) n c), some (.int .i64 (h : Int)), some (.pointer (some ⟨g, h, none⟩)), some (.int .i64 (y : Int)), some (.slice (some ⟨g, 0, none⟩) n c), some (.int .i64 (lo : Int)), some (.pointer (some ⟨g, lo, none⟩)), some (.int .i64 (x : Int)), some (.int .i64 (cmp3 (K y) (K x))), some (.bool true)]) (by kernel_rfl) (by kernel_rfl) (pv_guard (by intro p hp; cases hp)) (fun _ _ _ _ h _ _ => h) (fun _ _ _ _ h _ => h) (Chg.refl _ _).drew ⟨?_, ?_, ?_, ?_, ?_, ?_, ?_, ?_, ?_, ?_, ?_, trivial⟩ ?_
        · rintro kc m a w5 hkc hch hm hn
          obtain ⟨e1, -⟩ := hn
          replace e1 : a.tmps[4]?.getD undef = .func (.func 113) #[] #[cb] := e1
          exact rg_val (v := .func (.func 113) #[] #[cb]) (by simp [execOp, go_sem, e1]) rfl hch (Chg.refl _ _) rfl
        · rintro kc m a w5 hkc hch hm hn
          obtain ⟨e1, -⟩ := hn
          replace e1 : a.tmps[0]?.getD undef = .slice (some ⟨g, 0, none⟩) n c := e1
          exact rg_val (v := .slice (some ⟨g, 0, none⟩) n c) (by simp [execOp, go_sem, e1]) rfl hch (Chg.refl _ _) rfl
        · rintro kc m a w5 hkc hch hm hn
          obtain ⟨e1, -⟩ := hn
          replace e1 : a.tmps[12]?.getD undef = .int .i64 (h : Int) := e1
          exact rg_val (v := .int .i64 (h : Int)) (by simp [execOp, go_sem, e1]) rfl hch (Chg.refl _ _) rfl
        · rintro kc m a w5 hkc hch hm hn
          obtain ⟨⟨_, e1, _, rfl⟩, ⟨_, e2, _, rfl⟩, -⟩ := hn
          exact rg_val (v := .pointer (some ⟨g, h, none⟩)) (by simp [execOp, go_sem, e1, e2]; exact fun hh => absurd hh (by omega)) rfl hch (Chg.refl _ _) rfl
        · rintro kc m a w5 hkc hch hm hn
          obtain ⟨⟨_, e1, _, rfl⟩, -⟩ := hn
          have c0 := Chg.cell hch cy (fun x => x)
          exact rg_val (v := .int .i64 (y : Int)) (by simp [execOp, go_sem, e1, c0]) rfl hch (Chg.refl _ _) rfl
        · rintro kc m a w5 hkc hch hm hn
          obtain ⟨e1, -⟩ := hn
          replace e1 : a.tmps[0]?.getD undef = .slice (some ⟨g, 0, none⟩) n c := e1
          exact rg_val (v := .slice (some ⟨g, 0, none⟩) n c) (by simp [execOp, go_sem, e1]) rfl hch (Chg.refl _ _) rfl
        · rintro kc m a w5 hkc hch hm hn
          obtain ⟨e1, -⟩ := hn
          replace e1 : a.tmps[1]?.getD undef = .int .i64 (lo : Int) := e1
          exact rg_val (v := .int .i64 (lo : Int)) (by simp [execOp, go_sem, e1]) rfl hch (Chg.refl _ _) rfl
        · rintro kc m a w5 hkc hch hm hn
          obtain ⟨⟨_, e1, _, rfl⟩, ⟨_, e2, _, rfl⟩, -⟩ := hn
          exact rg_val (v := .pointer (some ⟨g, lo, none⟩)) (by simp [execOp, go_sem, e1, e2]; exact fun hh => absurd hh (by omega)) rfl hch (Chg.refl _ _) rfl
        · rintro kc m a w5 hkc hch hm hn
          obtain ⟨⟨_, e1, _, rfl⟩, -⟩ := hn
          have c0 := Chg.cell hch cx (fun x => x)
          exact rg_val (v := .int .i64 (x : Int)) (by simp [execOp, go_sem, e1, c0]) rfl hch (Chg.refl _ _) rfl
        · rintro kc m a w5 hkc hch hm hn
          obtain ⟨⟨_, e1, _, rfl⟩, ⟨_, e2, _, rfl⟩, ⟨_, e3, _, rfl⟩, -⟩ := hn
          refine rg_call (f := 113) (args := #[.int .i64 (y : Int), .int .i64 (x : Int), cb]) (by simp [go_sem, e1, e2, e3]) rfl ?_
          refine (HCC.out _ (hch.mono (fun _ _ x => x.elim)) y x HYM.out HXM.out).mono ?_
          rintro e w6 ⟨rfl, hc6⟩
          exact ⟨_, rfl, hch.trans hc6, hc6, rfl⟩
        · rintro kc m a w5 hkc hch hm hn
          obtain ⟨⟨_, e1, _, rfl⟩, -⟩ := hn
          exact rg_val (v := .bool true) (by simp [execOp, go_sem, e1, hl0]) rfl hch (Chg.refl _ _) rfl
        rintro m w2 hc2
        simp only [AllVals]
        rintro v0 _ p0 v1 _ p1 v2 _ p2 v3 _ p3 v4 _ p4 v5 _ p5 v6 _ p6 v7 _ p7 v8 _ p8 v9 _ p9 v10 _ p10
        obtain rfl := p10
        clear p0 p1 p2 p3 p4 p5 p6 p7 p8 p9
        simp only [Act.put, List.setIfInBounds_toArray, List.set_cons_succ, List.set_cons_zero]
        have HC2 := Lib.hid hc2
        clear hc2
        have HCX := Lib.hid (HCH2.out.trans (HC2.out.mono (fun _ _ x => x.elim)))
        have HBX := Lib.hid (HBL2.out.chg (F := NoB) HC2.out (fun x => x))
        clear HC2 cx cy hl0
        go_wp2
        go_roundw
        case rel => exact ⟨h + 1, j, by go_num, rfl, by omega, by omega, hj2, Lib.hid (.inr (by rw [show h + 1 - md - 1 = h - md by omega, HYE.out]; exact hl)), HJ, HCX.out, HBX.out⟩
        case measure => simp [intOf]; omega
      · have hl0 : ¬ cmp3 (K y) (K x) < 0 := fun q => hl (cmp3_lt.1 q)
        clear hch
        go_wp2_with fail
        refine wp_region_ro (gl := []) (WInv := fun _ _ w5 => Chg NoB wr w5) (R := Chg NoB) (Post := PV [some (.func (.func 113) #[] #[cb]), some (.slice (some ⟨g, 0, none⟩) n c), some (.int .i64 (h : Int)), some (.pointer (some ⟨g, h, none⟩)), some (.int .i64 (y : Int)), some (.slice (some ⟨g, 0, none⟩) n c), some (.int .i64 (lo : Int)), some (.pointer (some ⟨g, lo, none⟩)), some (.int .i64 (x : Int)), some (.int .i64 (cmp3 (K y) (K x))), some (.bool false)]) (by kernel_rfl) (by kernel_rfl) (pv_guard (by intro p hp; cases hp)) (fun _ _ _ _ h _ _ => h) (fun _ _ _ _ h _ => h) (Chg.refl _ _).drew ⟨?_, ?_, ?_, ?_, ?_, ?_, ?_, ?_, ?_, ?_, ?_, trivial⟩ ?_
        · rintro kc m a w5 hkc hch hm hn
          obtain ⟨e1, -⟩ := hn
          replace e1 : a.tmps[4]?.getD undef = .func (.func 113) #[] #[cb] := e1
          exact rg_val (v := .func (.func 113) #[] #[cb]) (by simp [execOp, go_sem, e1]) rfl hch (Chg.refl _ _) rfl
        · rintro kc m a w5 hkc hch hm hn
          obtain ⟨e1, -⟩ := hn
          replace e1 : a.tmps[0]?.getD undef = .slice (some ⟨g, 0, none⟩) n c := e1
          exact rg_val (v := .slice (some ⟨g, 0, none⟩) n c) (by simp [execOp, go_sem, e1]) rfl hch (Chg.refl _ _) rfl
        · rintro kc m a w5 hkc hch hm hn
          obtain ⟨e1, -⟩ := hn
          replace e1 : a.tmps[12]?.getD undef = .int .i64 (h : Int) := e1
          exact rg_val (v := .int .i64 (h : Int)) (by simp [execOp, go_sem, e1]) rfl hch (Chg.refl _ _) rfl
        · rintro kc m a w5 hkc hch hm hn
          obtain ⟨⟨_, e1, _, rfl⟩, ⟨_, e2, _, rfl⟩, -⟩ := hn
          exact rg_val (v := .pointer (some ⟨g, h, none⟩)) (by simp [execOp, go_sem, e1, e2]; exact fun hh => absurd hh (by omega)) rfl hch (Chg.refl _ _) rfl
        · rintro kc m a w5 hkc hch hm hn
          obtain ⟨⟨_, e1, _, rfl⟩, -⟩ := hn
          have c0 := Chg.cell hch cy (fun x => x)
          exact rg_val (v := .int .i64 (y : Int)) (by simp [execOp, go_sem, e1, c0]) rfl hch (Chg.refl _ _) rfl
        · rintro kc m a w5 hkc hch hm hn
          obtain ⟨e1, -⟩ := hn
          replace e1 : a.tmps[0]?.getD undef = .slice (some ⟨g, 0, none⟩) n c := e1
          exact rg_val (v := .slice (some ⟨g, 0, none⟩) n c) (by simp [execOp, go_sem, e1]) rfl hch (Chg.refl _ _) rfl
        · rintro kc m a w5 hkc hch hm hn
          obtain ⟨e1, -⟩ := hn
          replace e1 : a.tmps[1]?.getD undef = .int .i64 (lo : Int) := e1
          exact rg_val (v := .int .i64 (lo : Int)) (by simp [execOp, go_sem, e1]) rfl hch (Chg.refl _ _) rfl
        · rintro kc m a w5 hkc hch hm hn
          obtain ⟨⟨_, e1, _, rfl⟩, ⟨_, e2, _, rfl⟩, -⟩ := hn
          exact rg_val (v := .pointer (some ⟨g, lo, none⟩)) (by simp [execOp, go_sem, e1, e2]; exact fun hh => absurd hh (by omega)) rfl hch (Chg.refl _ _) rfl
        · rintro kc m a w5 hkc hch hm hn
          obtain ⟨⟨_, e1, _, rfl⟩, -⟩ := hn
          have c0 := Chg.cell hch cx (fun x => x)
          exact rg_val (v := .int .i64 (x : Int)) (by simp [execOp, go_sem, e1, c0]) rfl hch (Chg.refl _ _) rfl
        · rintro kc m a w5 hkc hch hm hn
          obtain ⟨⟨_, e1, _, rfl⟩, ⟨_, e2, _, rfl⟩, ⟨_, e3, _, rfl⟩, -⟩ := hn
          refine rg_call (f := 113) (args := #[.int .i64 (y : Int), .int .i64 (x : Int), cb]) (by simp [go_sem, e1, e2, e3]) rfl ?_
          refine (HCC.out _ (hch.mono (fun _ _ x => x.elim)) y x HYM.out HXM.out).mono ?_
          rintro e w6 ⟨rfl, hc6⟩
          exact ⟨_, rfl, hch.trans hc6, hc6, rfl⟩
        · rintro kc m a w5 hkc hch hm hn
          obtain ⟨⟨_, e1, _, rfl⟩, -⟩ := hn
          exact rg_val (v := .bool false) (by simp [execOp, go_sem, e1, hl0]) rfl hch (Chg.refl _ _) rfl
        rintro m w2 hc2
        simp only [AllVals]
        rintro v0 _ p0 v1 _ p1 v2 _ p2 v3 _ p3 v4 _ p4 v5 _ p5 v6 _ p6 v7 _ p7 v8 _ p8 v9 _ p9 v10 _ p10
        obtain rfl := p10
        clear p0 p1 p2 p3 p4 p5 p6 p7 p8 p9
        simp only [Act.put, List.setIfInBounds_toArray, List.set_cons_succ, List.set_cons_zero]
        have HC2 := Lib.hid hc2
        clear hc2
        have HCX := Lib.hid (HCH2.out.trans (HC2.out.mono (fun _ _ x => x.elim)))
        have HBX := Lib.hid (HBL2.out.chg (F := NoB) HC2.out (fun x => x))
        clear HC2 cx cy hl0
        go_wp2
        go_roundw
        case rel => exact ⟨i, h, rfl, by go_num, hi1, by omega, by omega, HI, Lib.hid (.inr (by rw [HYE.out]; exact hl)), HCX.out, HBX.out⟩
        case measure => simp [intOf]; omega
    · have hlt' : ¬ ((i : Int) < (j : Int)) := by omega
      obtain rfl : i = j := by omega
      have HCH2 := Lib.hid hch
      have HBL2 := Lib.hid hbl
      have HR := Lib.hid (show insRow P V x (i - md) Q = P ++ (srt K (x :: V) ++ Q) by
        have := ins_left (K := K) (S := V) (x := x) (i := i - md) HSV.out HX.out (by have := HV.out; omega) (by rcases HI.out with q | q; exact .inl (by omega); exact .inr q) (by rcases HJ.out with q | q; exact .inl (by have := HV.out; omega); exact .inr (Int.not_lt.2 q))
        rw [← this]
        unfold insRow
        simp)
      clear hch hbl
      obtain ⟨w0, hw0⟩ : ∃ w0, wr = w0 := ⟨_, rfl⟩
      rw [hw0] at HCH2 HBL2 ⊢
      clear hw0
      go_wp2_with fail
      go_loopw [13] (fun vk wr => ∃ k : Nat, vk = .int .i64 (k : Int) ∧ lo ≤ k ∧ k + 1 ≤ i ∧ Chg (· = g) w wr ∧ RowB wr g rest (insRow P V x (k - lo) Q)) (fun vk _ => n - (intOf vk).toNat)
      case atStart => exact ⟨lo, rfl, Nat.le_refl _, by omega, HCH2.out, by rw [Nat.sub_self]; unfold insRow; exact HBL2.out⟩
      case round =>
        obtain ⟨k, rfl, hk1, hk2, hch, hbl⟩ := hrel
        by_cases hlt : k < i - 1
        · have hlt' : ((k : Int) < (i : Int) - 1) := by omega
          have HCH3 := Lib.hid hch
          have HKV := Lib.hid (show k - lo < V.length by have := HV.out; have := HU.out; omega)
          have hst := insRow_step (P := P) (x := x) (Y := Q) HKV.out
          obtain ⟨y, hy⟩ : ∃ y, V.getD (k - lo) 0 = y := ⟨_, rfl⟩
          rw [hst.2, hy] at hbl
          obtain ⟨cx, cy, hsw⟩ := RowB.ends (M := []) (l := k + 1) (y := y) hbl (k := k) (by have := HA.out; have := HKV.out; simp; omega) rfl
          have fx := hbl.fz k
          have fy := hbl.fz (k + 1)
          rw [List.nil_append, ← hy, ← hst.1, hy] at hsw
          have HSW := Lib.hid hsw
          have HKE := Lib.hid (show k - lo + 1 = k + 1 - lo by omega)
          clear hst hy hsw hbl hch
          have p0 : (0 : Int) ≤ (k : Int) + 1 := by omega
          have p2 : (k : Int) + 1 < (n : Int) := by omega
          have p3 : (k : Int) < (n : Int) := by omega
          have p4 : (0 : Int) ≤ (k : Int) := by omega
          have q1 : IntKind.i64.wrap ((k : Int) + 1) = (k : Int) + 1 := by rw [IntKind.wrap_i64]; omega
          have r1 : ((k : Int) + 1).toNat = k + 1 := by omega
          go_wp2_with fail
          go_region
          go_wp2
          go_roundw
          case rel => exact ⟨k + 1, by go_num, by omega, by omega, ((HCH3.out.setCell (p := ⟨g, k, none⟩) (.inl rfl) _).setCell (p := ⟨g, k + 1, none⟩) (.inl rfl) _).drew, by rw [← HKE.out]; exact Blk.chg HSW.out ((Chg.refl NoB _).drew) (fun x => x)⟩
          case measure => simp [intOf]; omega
        · have hlt' : ¬ ((k : Int) < (i : Int) - 1) := by omega
          have HCH3 := Lib.hid hch
          have HBL3 := Lib.hid hbl
          clear hch hbl
          go_wp2
          go_end0
          have h := HBL3.out
          rw [show k - lo = i - md by have := HU.out; omega, HR.out] at h
          exact ⟨rfl, HCH3.out, h⟩
set_option maxRecDepth 100000 in
set_option maxHeartbeats 4000000 in
theorem symR_any (w : World) (g c : Nat) (cb : Value) (K : Nat → Int) (M : Nat) (P U Q : List Nat) (y : Nat) (rest : List Value) (lo md hi n : Nat) (ha : P.length = lo) (hu : lo + U.length = md) (hv : md + 1 = hi) (hn : hi + Q.length = n) (hn' : n ≤ 1000) (hu1 : 2 ≤ U.length)
    (hB : RowB w g rest (P ++ (U ++ (y :: Q)))) (hU : Srt K U) (hX : ∀ x ∈ U, K x = K y → x ≤ y) (hyM : y < M) (hUM : ∀ x ∈ U, x < M) (hC : CmpP w g cb K M) :
    Calls Try.prog 167 #[.slice (some ⟨g, 0, none⟩) n c, .int .i64 (lo : Int), .int .i64 (md : Int), .int .i64 (hi : Int), .func (.func 113) #[] #[cb]] w (RowP w g rest (P ++ (srt K (U ++ [y]) ++ Q))) := by
  have HB := Lib.hid hB
  have HA := Lib.hid ha
  have HU := Lib.hid hu
  have HV := Lib.hid hv
  have HN := Lib.hid hn
  have HSU := Lib.hid hU
  have HX := Lib.hid (show ∀ x ∈ U, K y = K x → x ≤ y from fun x hx h => hX x hx h.symm)
  have HX' := Lib.hid hX
  have HYM := Lib.hid hyM
  have HUM := Lib.hid hUM
  have HC := Lib.hid hC
  have h1 : lo + 2 ≤ md := by omega
  have h2 : md < hi := by omega
  have h3 : hi ≤ n := by omega
  have t1 : ((md : Int) - (lo : Int) == 1) = false := by rw [beq_eq_false_iff_ne]; omega
  have t2 : ((hi : Int) - (md : Int) == 1) = true := by rw [beq_iff_eq]; omega
  clear hB ha hu hv hn hU hX hyM hUM hC hu1
  go_enter Try.func167, Try.ntmps167
  go_wp2_with fail
  go_loopw [14, 15] (fun vi vj wr => ∃ (i j : Nat), vi = .int .i64 (i : Int) ∧ vj = .int .i64 (j : Int) ∧ lo ≤ i ∧ i ≤ j ∧ j ≤ md ∧ Hid (i = lo ∨ K (U.getD (i - lo - 1) 0) ≤ K y) ∧ Hid (j = md ∨ K y < K (U.getD (j - lo) 0)) ∧ Chg (· = g) w wr ∧ RowB wr g rest (P ++ (U ++ (y :: Q)))) (fun vi vj _ => (intOf vj).toNat - (intOf vi).toNat)
  case atStart => exact ⟨lo, md, rfl, rfl, Nat.le_refl _, by omega, Nat.le_refl _, Lib.hid (.inl rfl), Lib.hid (.inl rfl), Chg.refl _ _, HB.out⟩
  case round =>
    obtain ⟨i, j, rfl, rfl, hi1, hj1, hj2, HI, HJ, hch, hbl⟩ := hrel
    by_cases hlt : i < j
    · have hlt' : ((i : Int) < (j : Int)) := by omega
      have p1 : (0 : Int) ≤ (i : Int) + (j : Int) := by omega
      go_wp2_with fail
      obtain ⟨h, hh⟩ : ∃ h : Nat, ((i : Int) + (j : Int)) / 2 = (h : Int) := ⟨(i + j) / 2, by omega⟩
      have HH := Lib.hid hh
      rw [hh]
      have b1 : i ≤ h := by omega
      have b2 : h < j := by omega
      have HUL := Lib.hid (show h - lo < U.length by have := HU.out; omega)
      clear hh p1
      obtain ⟨x, hx⟩ : ∃ x, U.getD (h - lo) 0 = x := ⟨_, rfl⟩
      have HXM := Lib.hid (show x < M by rw [← hx]; exact HUM.out _ (getD_mem HUL.out))
      have HXE := Lib.hid hx
      have cy : wr.cell? ⟨g, md, none⟩ = some (.int .i64 (y : Int)) := RowB.at_ (P := P ++ U) (Q := Q) (by simpa using hbl) (by rw [List.length_append, HA.out, HU.out])
      have cx := hbl.get (k := h) (by have := HA.out; have := HUL.out; simp; omega)
      rw [getD_app_right (l := h - lo) (by have := HA.out; omega), getD_app_left HUL.out, hx] at cx
      have HBL2 := Lib.hid hbl
      have HCC := Lib.hid (HC.out.later hch)
      have HCH2 := Lib.hid hch
      have z0 : (0 : Int) ≤ (h : Int) := Int.natCast_nonneg _
      have z1 : (h : Int) < (n : Int) := by omega
      have z2 : (md : Int) < (n : Int) := by omega
      clear hbl hx
      by_cases hl : K y < K x
      · have hl0 : cmp3 (K y) (K x) < 0 := cmp3_lt.2 hl
        clear hch
        go_wp2_with fail
        refine wp_region_ro (gl := []) (WInv := fun _ _ w5 => Chg NoB wr w5) (R := Chg NoB) (Post := PV [some (.func (.func 113) #[] #[cb]), some (.slice (some ⟨g, 0, none⟩) n c), some (.int .i64 (md : Int)), some (.pointer (some ⟨g, md, none⟩)), some (.int .i64 (y : Int)), some (.slice (some ⟨g, 0, none⟩) n c), some (.int .i64 (h : Int)), some (.pointer (some ⟨g, h, none⟩)), some (.int .i64 (x : Int)), some (.int .i64 (cmp3 (K y) (K x))), some (.bool true), some (.bool false)]) (by kernel_rfl) (by kernel_rfl) (pv_guard (by intro p hp; cases hp)) (fun _ _ _ _ h _ _ => h) (fun _ _ _ _ h _ => h) (Chg.refl _ _).drew ⟨?_, ?_, ?_, ?_, ?_, ?_, ?_, ?_, ?_, ?_, ?_, ?_, trivial⟩ ?_
        · rintro kc m a w5 hkc hch hm hn
          obtain ⟨e1, -⟩ := hn
          replace e1 : a.tmps[4]?.getD undef = .func (.func 113) #[] #[cb] := e1
          exact rg_val (v := .func (.func 113) #[] #[cb]) (by simp [execOp, go_sem, e1]) rfl hch (Chg.refl _ _) rfl
        · rintro kc m a w5 hkc hch hm hn
          obtain ⟨e1, -⟩ := hn
          replace e1 : a.tmps[0]?.getD undef = .slice (some ⟨g, 0, none⟩) n c := e1
          exact rg_val (v := .slice (some ⟨g, 0, none⟩) n c) (by simp [execOp, go_sem, e1]) rfl hch (Chg.refl _ _) rfl
        · rintro kc m a w5 hkc hch hm hn
          obtain ⟨e1, -⟩ := hn
          replace e1 : a.tmps[2]?.getD undef = .int .i64 (md : Int) := e1
          exact rg_val (v := .int .i64 (md : Int)) (by simp [execOp, go_sem, e1]) rfl hch (Chg.refl _ _) rfl
        · rintro kc m a w5 hkc hch hm hn
          obtain ⟨⟨_, e1, _, rfl⟩, ⟨_, e2, _, rfl⟩, -⟩ := hn
          exact rg_val (v := .pointer (some ⟨g, md, none⟩)) (by simp [execOp, go_sem, e1, e2]; exact fun hh => absurd hh (by omega)) rfl hch (Chg.refl _ _) rfl
        · rintro kc m a w5 hkc hch hm hn
          obtain ⟨⟨_, e1, _, rfl⟩, -⟩ := hn
          have c0 := Chg.cell hch cy (fun x => x)
          exact rg_val (v := .int .i64 (y : Int)) (by simp [execOp, go_sem, e1, c0]) rfl hch (Chg.refl _ _) rfl
        · rintro kc m a w5 hkc hch hm hn
          obtain ⟨e1, -⟩ := hn
          replace e1 : a.tmps[0]?.getD undef = .slice (some ⟨g, 0, none⟩) n c := e1
          exact rg_val (v := .slice (some ⟨g, 0, none⟩) n c) (by simp [execOp, go_sem, e1]) rfl hch (Chg.refl _ _) rfl
        · rintro kc m a w5 hkc hch hm hn
          obtain ⟨e1, -⟩ := hn
          replace e1 : a.tmps[16]?.getD undef = .int .i64 (h : Int) := e1
          exact rg_val (v := .int .i64 (h : Int)) (by simp [execOp, go_sem, e1]) rfl hch (Chg.refl _ _) rfl
        · rintro kc m a w5 hkc hch hm hn
          obtain ⟨⟨_, e1, _, rfl⟩, ⟨_, e2, _, rfl⟩, -⟩ := hn
          exact rg_val (v := .pointer (some ⟨g, h, none⟩)) (by simp [execOp, go_sem, e1, e2]; exact fun hh => absurd hh (by omega)) rfl hch (Chg.refl _ _) rfl
        · rintro kc m a w5 hkc hch hm hn
          obtain ⟨⟨_, e1, _, rfl⟩, -⟩ := hn
          have c0 := Chg.cell hch cx (fun x => x)
          exact rg_val (v := .int .i64 (x : Int)) (by simp [execOp, go_sem, e1, c0]) rfl hch (Chg.refl _ _) rfl
        · rintro kc m a w5 hkc hch hm hn
          obtain ⟨⟨_, e1, _, rfl⟩, ⟨_, e2, _, rfl⟩, ⟨_, e3, _, rfl⟩, -⟩ := hn
          refine rg_call (f := 113) (args := #[.int .i64 (y : Int), .int .i64 (x : Int), cb]) (by simp [go_sem, e1, e2, e3]) rfl ?_
          refine (HCC.out _ (hch.mono (fun _ _ x => x.elim)) y x HYM.out HXM.out).mono ?_
          rintro e w6 ⟨rfl, hc6⟩
          exact ⟨_, rfl, hch.trans hc6, hc6, rfl⟩
        · rintro kc m a w5 hkc hch hm hn
          obtain ⟨⟨_, e1, _, rfl⟩, -⟩ := hn
          exact rg_val (v := .bool true) (by simp [execOp, go_sem, e1, hl0]) rfl hch (Chg.refl _ _) rfl
        · rintro kc m a w5 hkc hch hm hn
          obtain ⟨⟨_, e1, _, rfl⟩, -⟩ := hn
          exact rg_val (v := .bool false) (by simp [execOp, go_sem, e1]) rfl hch (Chg.refl _ _) rfl
        rintro m w2 hc2
        simp only [AllVals]
        rintro v0 _ p0 v1 _ p1 v2 _ p2 v3 _ p3 v4 _ p4 v5 _ p5 v6 _ p6 v7 _ p7 v8 _ p8 v9 _ p9 v10 _ p10 v11 _ p11
        obtain rfl := p11
        clear p0 p1 p2 p3 p4 p5 p6 p7 p8 p9 p10
        simp only [Act.put, List.setIfInBounds_toArray, List.set_cons_succ, List.set_cons_zero]
        have HC2 := Lib.hid hc2
        clear hc2
        have HCX := Lib.hid (HCH2.out.trans (HC2.out.mono (fun _ _ x => x.elim)))
        have HBX := Lib.hid (HBL2.out.chg (F := NoB) HC2.out (fun x => x))
        clear HC2 cx cy hl0
        go_wp2
        go_roundw
        case rel => exact ⟨i, h, rfl, by go_num, hi1, by omega, by omega, HI, Lib.hid (.inr (by rw [HXE.out]; exact hl)), HCX.out, HBX.out⟩
        case measure => simp [intOf]; omega
      · have hl0 : ¬ cmp3 (K y) (K x) < 0 := fun q => hl (cmp3_lt.1 q)
        clear hch
        go_wp2_with fail
        refine wp_region_ro (gl := []) (WInv := fun _ _ w5 => Chg NoB wr w5) (R := Chg NoB) (Post := PV [some (.func (.func 113) #[] #[cb]), some (.slice (some ⟨g, 0, none⟩) n c), some (.int .i64 (md : Int)), some (.pointer (some ⟨g, md, none⟩)), some (.int .i64 (y : Int)), some (.slice (some ⟨g, 0, none⟩) n c), some (.int .i64 (h : Int)), some (.pointer (some ⟨g, h, none⟩)), some (.int .i64 (x : Int)), some (.int .i64 (cmp3 (K y) (K x))), some (.bool false), some (.bool true)]) (by kernel_rfl) (by kernel_rfl) (pv_guard (by intro p hp; cases hp)) (fun _ _ _ _ h _ _ => h) (fun _ _ _ _ h _ => h) (Chg.refl _ _).drew ⟨?_, ?_, ?_, ?_, ?_, ?_, ?_, ?_, ?_, ?_, ?_, ?_, trivial⟩ ?_
        · rintro kc m a w5 hkc hch hm hn
          obtain ⟨e1, -⟩ := hn
          replace e1 : a.tmps[4]?.getD undef = .func (.func 113) #[] #[cb] := e1
          exact rg_val (v := .func (.func 113) #[] #[cb]) (by simp [execOp, go_sem, e1]) rfl hch (Chg.refl _ _) rfl
        · rintro kc m a w5 hkc hch hm hn
          obtain ⟨e1, -⟩ := hn
          replace e1 : a.tmps[0]?.getD undef = .slice (some ⟨g, 0, none⟩) n c := e1
          exact rg_val (v := .slice (some ⟨g, 0, none⟩) n c) (by simp [execOp, go_sem, e1]) rfl hch (Chg.refl _ _) rfl
        · rintro kc m a w5 hkc hch hm hn
          obtain ⟨e1, -⟩ := hn
          replace e1 : a.tmps[2]?.getD undef = .int .i64 (md : Int) := e1
          exact rg_val (v := .int .i64 (md : Int)) (by simp [execOp, go_sem, e1]) rfl hch (Chg.refl _ _) rfl
        · rintro kc m a w5 hkc hch hm hn
          obtain ⟨⟨_, e1, _, rfl⟩, ⟨_, e2, _, rfl⟩, -⟩ := hn
          exact rg_val (v := .pointer (some ⟨g, md, none⟩)) (by simp [execOp, go_sem, e1, e2]; exact fun hh => absurd hh (by omega)) rfl hch (Chg.refl _ _) rfl
        · rintro kc m a w5 hkc hch hm hn
          obtain ⟨⟨_, e1, _, rfl⟩, -⟩ := hn
          have c0 := Chg.cell hch cy (fun x => x)
          exact rg_val (v := .int .i64 (y : Int)) (by simp [execOp, go_sem, e1, c0]) rfl hch (Chg.refl _ _) rfl
        · rintro kc m a w5 hkc hch hm hn
          obtain ⟨e1, -⟩ := hn
          replace e1 : a.tmps[0]?.getD undef = .slice (some ⟨g, 0, none⟩) n c := e1
          exact rg_val (v := .slice (some ⟨g, 0, none⟩) n c) (by simp [execOp, go_sem, e1]) rfl hch (Chg.refl _ _) rfl
        · rintro kc m a w5 hkc hch hm hn
          obtain ⟨e1, -⟩ := hn
          replace e1 : a.tmps[16]?.getD undef = .int .i64 (h : Int) := e1
          exact rg_val (v := .int .i64 (h : Int)) (by simp [execOp, go_sem, e1]) rfl hch (Chg.refl _ _) rfl
        · rintro kc m a w5 hkc hch hm hn
          obtain ⟨⟨_, e1, _, rfl⟩, ⟨_, e2, _, rfl⟩, -⟩ := hn
          exact rg_val (v := .pointer (some ⟨g, h, none⟩)) (by simp [execOp, go_sem, e1, e2]; exact fun hh => absurd hh (by omega)) rfl hch (Chg.refl _ _) rfl
        · rintro kc m a w5 hkc hch hm hn
          obtain ⟨⟨_, e1, _, rfl⟩, -⟩ := hn
          have c0 := Chg.cell hch cx (fun x => x)
          exact rg_val (v := .int .i64 (x : Int)) (by simp [execOp, go_sem, e1, c0]) rfl hch (Chg.refl _ _) rfl
        · rintro kc m a w5 hkc hch hm hn
          obtain ⟨⟨_, e1, _, rfl⟩, ⟨_, e2, _, rfl⟩, ⟨_, e3, _, rfl⟩, -⟩ := hn
          refine rg_call (f := 113) (args := #[.int .i64 (y : Int), .int .i64 (x : Int), cb]) (by simp [go_sem, e1, e2, e3]) rfl ?_
          refine (HCC.out _ (hch.mono (fun _ _ x => x.elim)) y x HYM.out HXM.out).mono ?_
          rintro e w6 ⟨rfl, hc6⟩
          exact ⟨_, rfl, hch.trans hc6, hc6, rfl⟩
        · rintro kc m a w5 hkc hch hm hn
          obtain ⟨⟨_, e1, _, rfl⟩, -⟩ := hn
          exact rg_val (v := .bool false) (by simp [execOp, go_sem, e1, hl0]) rfl hch (Chg.refl _ _) rfl
        · rintro kc m a w5 hkc hch hm hn
          obtain ⟨⟨_, e1, _, rfl⟩, -⟩ := hn
          exact rg_val (v := .bool true) (by simp [execOp, go_sem, e1]) rfl hch (Chg.refl _ _) rfl
        rintro m w2 hc2
        simp only [AllVals]
        rintro v0 _ p0 v1 _ p1 v2 _ p2 v3 _ p3 v4 _ p4 v5 _ p5 v6 _ p6 v7 _ p7 v8 _ p8 v9 _ p9 v10 _ p10 v11 _ p11
        obtain rfl := p11
        clear p0 p1 p2 p3 p4 p5 p6 p7 p8 p9 p10
        simp only [Act.put, List.setIfInBounds_toArray, List.set_cons_succ, List.set_cons_zero]
        have HC2 := Lib.hid hc2
        clear hc2
        have HCX := Lib.hid (HCH2.out.trans (HC2.out.mono (fun _ _ x => x.elim)))
        have HBX := Lib.hid (HBL2.out.chg (F := NoB) HC2.out (fun x => x))
        clear HC2 cx cy hl0
        go_wp2
        go_roundw
        case rel => exact ⟨h + 1, j, by go_num, rfl, by omega, by omega, hj2, Lib.hid (.inr (by rw [show h + 1 - lo - 1 = h - lo by omega, HXE.out]; exact hl)), HJ, HCX.out, HBX.out⟩
        case measure => simp [intOf]; omega
    · have hlt' : ¬ ((i : Int) < (j : Int)) := by omega
      obtain rfl : i = j := by omega
      have HCH2 := Lib.hid hch
      have HBL2 := Lib.hid hbl
      have HR := Lib.hid (show insRow P U y (i - lo) Q = P ++ (srt K (U ++ [y]) ++ Q) by
        have := ins_right (K := K) (S := U) (y := y) (i := i - lo) HSU.out HX'.out (by have := HU.out; omega) (by rcases HI.out with q | q; exact .inl (by omega); exact .inr (Int.not_lt.2 q)) (by rcases HJ.out with q | q; exact .inl (by have := HU.out; omega); exact .inr q)
        rw [← this]
        unfold insRow
        simp)
      clear hch hbl
      obtain ⟨w0, hw0⟩ : ∃ w0, wr = w0 := ⟨_, rfl⟩
      rw [hw0] at HCH2 HBL2 ⊢
      clear hw0
      go_wp2_with fail
      go_loopw [17] (fun vk wr => ∃ k : Nat, vk = .int .i64 (k : Int) ∧ i ≤ k ∧ k ≤ md ∧ Chg (· = g) w wr ∧ RowB wr g rest (insRow P U y (k - lo) Q)) (fun vk _ => (intOf vk).toNat)
      case atStart => exact ⟨md, rfl, by omega, Nat.le_refl _, HCH2.out, by
        have e1 : U.take (md - lo) = U := List.take_of_length_le (by have := HU.out; omega)
        have e2 : U.drop (md - lo) = [] := List.drop_of_length_le (by have := HU.out; omega)
        unfold insRow
        rw [e1, e2]
        exact HBL2.out⟩
      case round =>
        obtain ⟨k, rfl, hk1, hk2, hch, hbl⟩ := hrel
        by_cases hlt : i < k
        · obtain ⟨q, rfl⟩ : ∃ q, k = q + 1 := ⟨k - 1, by omega⟩
          have hlt' : ((q : Int) + 1 > (i : Int)) := by omega
          have HCH3 := Lib.hid hch
          have HKV := Lib.hid (show q - lo < U.length by have := HU.out; omega)
          have hst := insRow_step (P := P) (x := y) (Y := Q) HKV.out
          obtain ⟨x, hx⟩ : ∃ x, U.getD (q - lo) 0 = x := ⟨_, rfl⟩
          rw [show q + 1 - lo = q - lo + 1 by omega, hst.1, hx] at hbl
          have hpl : (P ++ U.take (q - lo)).length = q := by have := HA.out; have := HKV.out; simp; omega
          have cx := hbl.at_ hpl
          have cy := RowB.at_ (P := P ++ U.take (q - lo) ++ [x]) (k := q + 1) (Q := U.drop (q - lo + 1) ++ Q) (x := y) (w := wr) (g := g) (rest := rest) (by simpa using hbl) (by rw [List.length_append, hpl]; rfl)
          have hsw := hbl.swap hpl
          have fx := hbl.fz q
          have fy := hbl.fz (q + 1)
          rw [← hx, ← hst.2, hx] at hsw
          have HSW := Lib.hid hsw
          clear hst hx hsw hbl hch hpl
          have p0 : (0 : Int) ≤ (q : Int) := by omega
          have p2 : (q : Int) + 1 < (n : Int) := by omega
          have p3 : (q : Int) < (n : Int) := by omega
          have q1 : (q : Int) + 1 - 1 = (q : Int) := by omega
          go_wp2_with fail
          go_region
          go_wp2
          go_roundw
          case rel => exact ⟨q, by go_num, by omega, by omega, ((HCH3.out.setCell (p := ⟨g, q + 1, none⟩) (.inl rfl) _).setCell (p := ⟨g, q, none⟩) (.inl rfl) _).drew, Blk.chg HSW.out ((Chg.refl NoB _).drew) (fun x => x)⟩
          case measure => simp [intOf]
        · have hlt' : ¬ ((k : Int) > (i : Int)) := by omega
          have HCH3 := Lib.hid hch
          have HBL3 := Lib.hid hbl
          clear hch hbl
          go_wp2
          go_end0
          have h := HBL3.out
          rw [show k - lo = i - lo by omega, HR.out] at h
          exact ⟨rfl, HCH3.out, h⟩
end Go.Proofs.Ytpiojofmflfkkaa
/- symMerge: the whole. -/
namespace Go.Proofs.Ytpiojofmflfkkaa
open Go.RowKit
structure Parts (K : Nat → Int) (M : Nat) (U V U1 U2 V1 V2 : List Nat) : Prop where
  u : ∀ R, U ++ R = U1 ++ (U2 ++ R)
  v : ∀ R, V ++ R = V1 ++ (V2 ++ R)
  s1 : Srt K U1
  s2 : Srt K U2
  s3 : Srt K V1
  s4 : Srt K V2
  c1 : Cross K U1 V1
  c2 : Cross K U2 V2
  m1 : ∀ x ∈ U1, x < M
  m2 : ∀ x ∈ U2, x < M
  m3 : ∀ x ∈ V1, x < M
  m4 : ∀ x ∈ V2, x < M
  whole : srt K (U1 ++ V1) ++ srt K (U2 ++ V2) = srt K (U ++ V)
theorem sym_parts {K : Nat → Int} {M : Nat} {U V : List Nat} {lo md hi mi s : Nat} (hu : lo + U.length = md) (hv : md + V.length = hi) (hm : mi = (lo + hi) / 2) (hU : Srt K U) (hV : Srt K V) (hc : Cross K U V) (hUM : ∀ x ∈ U, x < M) (hVM : ∀ y ∈ V, y < M)
    (h0 : mi + md ≤ s + hi) (h1 : lo ≤ s) (h1' : s ≤ mi) (h1'' : s ≤ md) (h2 : (s = lo ∨ s + hi = mi + md) ∨ K (U.getD (s - lo - 1) 0) ≤ K (V.getD (mi - s) 0)) (h3 : (s = mi ∨ s = md) ∨ K (V.getD (mi - 1 - s) 0) < K (U.getD (s - lo) 0)) :
    ∃ U1 U2 V1 V2, Parts K M U V U1 U2 V1 V2 ∧ lo + U1.length = s ∧ s + U2.length = md ∧ s + V1.length = mi ∧ (mi + md - s) + V2.length = hi := by
  have e1 : mi - lo - (s - lo) = mi - s := by omega
  have e2 : mi - lo - 1 - (s - lo) = mi - 1 - s := by omega
  have hw := sym_split (K := K) (U := U) (V := V) (M := mi - lo) (s := s - lo) hU hV hc (by omega) (by omega) (by
    rw [e1]
    rcases h2 with (h2 | h2) | h2
    · exact .inl (by omega)
    · exact .inl (by omega)
    · exact .inr (Int.not_lt.2 h2)) (by
    rw [e2]
    rcases h3 with (h3 | h3) | h3
    · exact .inl (by omega)
    · exact .inl (by omega)
    · exact .inr h3)
  rw [e1] at hw
  refine ⟨U.take (s - lo), U.drop (s - lo), V.take (mi - s), V.drop (mi - s), ⟨fun R => by rw [← List.append_assoc, List.take_append_drop], fun R => by rw [← List.append_assoc, List.take_append_drop], hU.sublist (List.take_sublist _ _), hU.sublist (List.drop_sublist _ _),
    hV.sublist (List.take_sublist _ _), hV.sublist (List.drop_sublist _ _), (hc.parts _ _).1, (hc.parts _ _).2, fun x hx => hUM x (List.mem_of_mem_take hx), fun x hx => hUM x (List.mem_of_mem_drop hx), fun x hx => hVM x (List.mem_of_mem_take hx), fun x hx => hVM x (List.mem_of_mem_drop hx), hw⟩, ?_, ?_, ?_, ?_⟩
  · rw [List.length_take]; omega
  · rw [List.length_drop]; omega
  · rw [List.length_take]; omega
  · rw [List.length_drop]; omega
theorem srt_one_side {K : Nat → Int} {A B : List Nat} (hA : Srt K A) (hB : Srt K B) (h : A.length = 0 ∨ B.length = 0) : srt K (A ++ B) = A ++ B := by
  rcases h with h | h
  · rw [List.length_eq_zero_iff] at h; subst h; exact srt_self hB
  · rw [List.length_eq_zero_iff] at h; subst h; rw [List.append_nil]; exact srt_self hA
theorem swap_one_side {U V : List Nat} (h : U.length = 0 ∨ V.length = 0) (R : List Nat) : U ++ (V ++ R) = V ++ (U ++ R) := by
  rcases h with h | h <;> rw [List.length_eq_zero_iff] at h <;> subst h <;> rfl
def SymP (K : Nat → Int) (M g c : Nat) (cb : Value) (n : Nat) (rest : List Value) (N : Nat) : Prop := ∀ (w : World) (P U V Q : List Nat) (lo md hi : Nat), U.length + V.length ≤ N → P.length = lo → lo + U.length = md → md + V.length = hi → hi + Q.length = n → 1 ≤ U.length → 1 ≤ V.length →
  RowB w g rest (P ++ (U ++ (V ++ Q))) → Srt K U → Srt K V → Cross K U V → (∀ x ∈ U, x < M) → (∀ y ∈ V, y < M) → CmpP w g cb K M →
  Calls Try.prog 167 #[.slice (some ⟨g, 0, none⟩) n c, .int .i64 (lo : Int), .int .i64 (md : Int), .int .i64 (hi : Int), .func (.func 113) #[] #[cb]] w (RowP w g rest (P ++ (srt K (U ++ V) ++ Q)))
set_option maxRecDepth 100000 in
set_option maxHeartbeats 16000000 in
theorem symG_any (w : World) (g c : Nat) (cb : Value) (K : Nat → Int) (M N : Nat) (P U V Q : List Nat) (rest : List Value) (lo md hi n : Nat) (IH : SymP K M g c cb n rest N) (hN : U.length + V.length ≤ N + 1) (ha : P.length = lo) (hu : lo + U.length = md) (hv : md + V.length = hi) (hn : hi + Q.length = n) (hn' : n ≤ 1000) (hu1 : 2 ≤ U.length) (hv1 : 2 ≤ V.length)
    (hB : RowB w g rest (P ++ (U ++ (V ++ Q)))) (hU : Srt K U) (hV : Srt K V) (hX : Cross K U V) (hUM : ∀ x ∈ U, x < M) (hVM : ∀ y ∈ V, y < M) (hC : CmpP w g cb K M) :
    Calls Try.prog 167 #[.slice (some ⟨g, 0, none⟩) n c, .int .i64 (lo : Int), .int .i64 (md : Int), .int .i64 (hi : Int), .func (.func 113) #[] #[cb]] w (RowP w g rest (P ++ (srt K (U ++ V) ++ Q))) := by
  have HIH := Lib.hid IH
  have HNN := Lib.hid hN
  have HB := Lib.hid hB
  have HA := Lib.hid ha
  have HU := Lib.hid hu
  have HV := Lib.hid hv
  have HN := Lib.hid hn
  have HSU := Lib.hid hU
  have HSV := Lib.hid hV
  have HX := Lib.hid hX
  have HUM := Lib.hid hUM
  have HVM := Lib.hid hVM
  have HC := Lib.hid hC
  obtain ⟨mi, hmi⟩ : ∃ mi, mi = (lo + hi) / 2 := ⟨_, rfl⟩
  have HMI := Lib.hid hmi
  have hmid : ((lo : Int) + (hi : Int)) / 2 = (mi : Int) := by omega
  have h1 : lo + 2 ≤ md := by omega
  have h2 : md + 2 ≤ hi := by omega
  have h3 : hi ≤ n := by omega
  have h4 : lo < mi := by omega
  have h5 : mi < hi := by omega
  have p0 : (0 : Int) ≤ (lo : Int) + (hi : Int) := by omega
  have t1 : ((md : Int) - (lo : Int) == 1) = false := by rw [beq_eq_false_iff_ne]; omega
  have t2 : ((hi : Int) - (md : Int) == 1) = false := by rw [beq_eq_false_iff_ne]; omega
  clear IH hN hB ha hu hv hn hU hV hX hUM hVM hC hu1 hv1 hmi
  by_cases hm : mi < md
  · have hm' : ((md : Int) > (mi : Int)) := by omega
    have hst : (mi : Int) + (md : Int) - (hi : Int) = ((mi + md - hi : Nat) : Int) := by omega
    go_enter Try.func167, Try.ntmps167
    go_wp2_with fail
    obtain ⟨st, hs0⟩ : ∃ st, st = mi + md - hi := ⟨_, rfl⟩
    obtain ⟨r0, hr0⟩ : ∃ r0, r0 = mi := ⟨_, rfl⟩
    have HST := Lib.hid (show (mi + md ≤ st + hi ∧ lo ≤ st ∧ st ≤ r0 ∧ r0 ≤ mi ∧ r0 ≤ md) ∧ (st = lo ∨ st + hi = mi + md) ∧ (r0 = mi ∨ r0 = md) by omega)
    have hb0 := HST.out.1
    have HS0 := Lib.hid (show (mi : Int) + (md : Int) - (hi : Int) = (st : Int) by omega)
    have HR0 := Lib.hid hr0
    clear hs0 hr0 hst
    go_loopw [20, 21] (fun vi vj wr => ∃ (s r : Nat), vi = .int .i64 (s : Int) ∧ vj = .int .i64 (r : Int) ∧ st ≤ s ∧ s ≤ r ∧ r ≤ r0 ∧ Hid (s = st ∨ K (U.getD (s - lo - 1) 0) ≤ K (V.getD (mi - s) 0)) ∧ Hid (r = r0 ∨ K (V.getD (mi - 1 - r) 0) < K (U.getD (r - lo) 0)) ∧ Chg (· = g) w wr ∧ RowB wr g rest (P ++ (U ++ (V ++ Q)))) (fun vi vj _ => (intOf vj).toNat - (intOf vi).toNat)
    case atStart => exact ⟨st, r0, by rw [← HS0.out]; first | rfl | go_num, by rw [HR0.out], Nat.le_refl _, hb0.2.2.1, Nat.le_refl _, Lib.hid (.inl rfl), Lib.hid (.inl rfl), Chg.refl _ _, HB.out⟩
    case round =>
      obtain ⟨s, r, rfl, rfl, hs1, hsr, hr1, HI, HJ, hch, hbl⟩ := hrel
      by_cases hlt : s < r
      · have hlt' : ((s : Int) < (r : Int)) := by omega
        have p1 : (0 : Int) ≤ (s : Int) + (r : Int) := by omega
        go_wp2_with fail
        obtain ⟨h, hh⟩ : ∃ h : Nat, ((s : Int) + (r : Int)) / 2 = (h : Int) := ⟨(s + r) / 2, by omega⟩
        have HH := Lib.hid hh
        rw [hh]
        have b1 : s ≤ h := by omega
        have b2 : h < r := by omega
        obtain ⟨qq, hq⟩ : ∃ qq, qq = mi + md - 1 - h := ⟨_, rfl⟩
        have hwp : IntKind.i64.wrap ((mi : Int) + (md : Int) - 1 - (h : Int)) = (qq : Int) := by rw [IntKind.wrap_i64]; omega
        have HUL := Lib.hid (show h - lo < U.length by have := HU.out; omega)
        have HVL := Lib.hid (show mi - 1 - h < V.length by have := HV.out; omega)
        have HQ := Lib.hid hq
        have z1 : (qq : Int) < (n : Int) := by omega
        have z2 : (h : Int) < (n : Int) := by omega
        have z3 : (0 : Int) ≤ (qq : Int) := Int.natCast_nonneg _
        have z4 : (0 : Int) ≤ (h : Int) := Int.natCast_nonneg _
        clear hh p1 hq
        obtain ⟨y, hy⟩ : ∃ y, V.getD (mi - 1 - h) 0 = y := ⟨_, rfl⟩
        obtain ⟨x, hx⟩ : ∃ x, U.getD (h - lo) 0 = x := ⟨_, rfl⟩
        have HYM := Lib.hid (show y < M by rw [← hy]; exact HVM.out _ (getD_mem HVL.out))
        have HXM := Lib.hid (show x < M by rw [← hx]; exact HUM.out _ (getD_mem HUL.out))
        have HYE := Lib.hid hy
        have HXE := Lib.hid hx
        have cx := hbl.get (k := h) (by have := HA.out; have := HUL.out; simp; omega)
        rw [getD_app_right (l := h - lo) (by have := HA.out; omega), getD_app_left HUL.out, hx] at cx
        have cy := hbl.get (k := qq) (by have := HA.out; have := HU.out; have := HVL.out; have := HQ.out; simp; omega)
        rw [getD_app_right (l := qq - lo) (by have := HA.out; have := HQ.out; omega), getD_app_right (l := mi - 1 - h) (by have := HU.out; have := HQ.out; omega), getD_app_left HVL.out, hy] at cy
        have HBL2 := Lib.hid hbl
        have HCC := Lib.hid (HC.out.later hch)
        have HCH2 := Lib.hid hch
        clear hbl hx hy
        by_cases hl : K y < K x
        · have hl0 : cmp3 (K y) (K x) < 0 := cmp3_lt.2 hl
          clear hch
          go_wp2_with fail
          refine wp_region_ro (gl := []) (WInv := fun _ _ w5 => Chg NoB wr w5) (R := Chg NoB) (Post := PV [some (.func (.func 113) #[] #[cb]), some (.slice (some ⟨g, 0, none⟩) n c), some (.int .i64 ((mi : Int) + (md : Int) - 1)), some (.int .i64 (h : Int)), some (.int .i64 (qq : Int)), some (.pointer (some ⟨g, qq, none⟩)), some (.int .i64 (y : Int)), some (.slice (some ⟨g, 0, none⟩) n c), some (.int .i64 (h : Int)), some (.pointer (some ⟨g, h, none⟩)), some (.int .i64 (x : Int)), some (.int .i64 (cmp3 (K y) (K x))), some (.bool true), some (.bool false)]) (by kernel_rfl) (by kernel_rfl) (pv_guard (by intro p hp; cases hp)) (fun _ _ _ _ h _ _ => h) (fun _ _ _ _ h _ => h) (Chg.refl _ _).drew ⟨?_, ?_, ?_, ?_, ?_, ?_, ?_, ?_, ?_, ?_, ?_, ?_, ?_, ?_, trivial⟩ ?_
          · rintro kc m a w5 hkc hch hm hn
            obtain ⟨e1, -⟩ := hn
            replace e1 : a.tmps[4]?.getD undef = .func (.func 113) #[] #[cb] := e1
            exact rg_val (v := .func (.func 113) #[] #[cb]) (by simp [execOp, go_sem, e1]) rfl hch (Chg.refl _ _) rfl
          · rintro kc m a w5 hkc hch hm hn
            obtain ⟨e1, -⟩ := hn
            replace e1 : a.tmps[0]?.getD undef = .slice (some ⟨g, 0, none⟩) n c := e1
            exact rg_val (v := .slice (some ⟨g, 0, none⟩) n c) (by simp [execOp, go_sem, e1]) rfl hch (Chg.refl _ _) rfl
          · rintro kc m a w5 hkc hch hm hn
            obtain ⟨e1, -⟩ := hn
            replace e1 : a.tmps[22]?.getD undef = .int .i64 ((mi : Int) + (md : Int) - 1) := e1
            exact rg_val (v := .int .i64 ((mi : Int) + (md : Int) - 1)) (by simp [execOp, go_sem, e1]) rfl hch (Chg.refl _ _) rfl
          · rintro kc m a w5 hkc hch hm hn
            obtain ⟨e1, -⟩ := hn
            replace e1 : a.tmps[23]?.getD undef = .int .i64 (h : Int) := e1
            exact rg_val (v := .int .i64 (h : Int)) (by simp [execOp, go_sem, e1]) rfl hch (Chg.refl _ _) rfl
          · rintro kc m a w5 hkc hch hm hn
            obtain ⟨⟨_, e1, _, rfl⟩, ⟨_, e2, _, rfl⟩, -⟩ := hn
            exact rg_val (v := .int .i64 (qq : Int)) (by simp [execOp, go_sem, e1, e2, hwp]) rfl hch (Chg.refl _ _) rfl
          · rintro kc m a w5 hkc hch hm hn
            obtain ⟨⟨_, e1, _, rfl⟩, ⟨_, e2, _, rfl⟩, -⟩ := hn
            exact rg_val (v := .pointer (some ⟨g, qq, none⟩)) (by simp [execOp, go_sem, e1, e2]; exact fun hh => absurd hh (by omega)) rfl hch (Chg.refl _ _) rfl
          · rintro kc m a w5 hkc hch hm hn
            obtain ⟨⟨_, e1, _, rfl⟩, -⟩ := hn
            have c0 := Chg.cell hch cy (fun x => x)
            exact rg_val (v := .int .i64 (y : Int)) (by simp [execOp, go_sem, e1, c0]) rfl hch (Chg.refl _ _) rfl
          · rintro kc m a w5 hkc hch hm hn
            obtain ⟨e1, -⟩ := hn
            replace e1 : a.tmps[0]?.getD undef = .slice (some ⟨g, 0, none⟩) n c := e1
            exact rg_val (v := .slice (some ⟨g, 0, none⟩) n c) (by simp [execOp, go_sem, e1]) rfl hch (Chg.refl _ _) rfl
          · rintro kc m a w5 hkc hch hm hn
            obtain ⟨e1, -⟩ := hn
            replace e1 : a.tmps[23]?.getD undef = .int .i64 (h : Int) := e1
            exact rg_val (v := .int .i64 (h : Int)) (by simp [execOp, go_sem, e1]) rfl hch (Chg.refl _ _) rfl
          · rintro kc m a w5 hkc hch hm hn
            obtain ⟨⟨_, e1, _, rfl⟩, ⟨_, e2, _, rfl⟩, -⟩ := hn
            exact rg_val (v := .pointer (some ⟨g, h, none⟩)) (by simp [execOp, go_sem, e1, e2]; exact fun hh => absurd hh (by omega)) rfl hch (Chg.refl _ _) rfl
          · rintro kc m a w5 hkc hch hm hn
            obtain ⟨⟨_, e1, _, rfl⟩, -⟩ := hn
            have c0 := Chg.cell hch cx (fun x => x)
            exact rg_val (v := .int .i64 (x : Int)) (by simp [execOp, go_sem, e1, c0]) rfl hch (Chg.refl _ _) rfl
          · rintro kc m a w5 hkc hch hm hn
            obtain ⟨⟨_, e1, _, rfl⟩, ⟨_, e2, _, rfl⟩, ⟨_, e3, _, rfl⟩, -⟩ := hn
            refine rg_call (f := 113) (args := #[.int .i64 (y : Int), .int .i64 (x : Int), cb]) (by simp [go_sem, e1, e2, e3]) rfl ?_
            refine (HCC.out _ (hch.mono (fun _ _ x => x.elim)) y x HYM.out HXM.out).mono ?_
            rintro e w6 ⟨rfl, hc6⟩
            exact ⟨_, rfl, hch.trans hc6, hc6, rfl⟩
          · rintro kc m a w5 hkc hch hm hn
            obtain ⟨⟨_, e1, _, rfl⟩, -⟩ := hn
            exact rg_val (v := .bool true) (by simp [execOp, go_sem, e1, hl0]) rfl hch (Chg.refl _ _) rfl
          · rintro kc m a w5 hkc hch hm hn
            obtain ⟨⟨_, e1, _, rfl⟩, -⟩ := hn
            exact rg_val (v := .bool false) (by simp [execOp, go_sem, e1]) rfl hch (Chg.refl _ _) rfl
          rintro m w2 hc2
          simp only [AllVals]
          rintro v0 _ p0 v1 _ p1 v2 _ p2 v3 _ p3 v4 _ p4 v5 _ p5 v6 _ p6 v7 _ p7 v8 _ p8 v9 _ p9 v10 _ p10 v11 _ p11 v12 _ p12 v13 _ p13
          obtain rfl := p13
          clear p0 p1 p2 p3 p4 p5 p6 p7 p8 p9 p10 p11 p12
          simp only [Act.put, List.setIfInBounds_toArray, List.set_cons_succ, List.set_cons_zero]
          have HC2 := Lib.hid hc2
          clear hc2
          have HCX := Lib.hid (HCH2.out.trans (HC2.out.mono (fun _ _ x => x.elim)))
          have HBX := Lib.hid (HBL2.out.chg (F := NoB) HC2.out (fun x => x))
          clear HC2 cx cy hl0 hwp
          go_wp2
          go_roundw
          case rel => exact ⟨s, h, rfl, by go_num, hs1, b1, by omega, HI, Lib.hid (.inr (by rw [HXE.out, HYE.out]; exact hl)), HCX.out, HBX.out⟩
          case measure => simp [intOf]; omega
        · have hl0 : ¬ cmp3 (K y) (K x) < 0 := fun q => hl (cmp3_lt.1 q)
          clear hch
          go_wp2_with fail
          refine wp_region_ro (gl := []) (WInv := fun _ _ w5 => Chg NoB wr w5) (R := Chg NoB) (Post := PV [some (.func (.func 113) #[] #[cb]), some (.slice (some ⟨g, 0, none⟩) n c), some (.int .i64 ((mi : Int) + (md : Int) - 1)), some (.int .i64 (h : Int)), some (.int .i64 (qq : Int)), some (.pointer (some ⟨g, qq, none⟩)), some (.int .i64 (y : Int)), some (.slice (some ⟨g, 0, none⟩) n c), some (.int .i64 (h : Int)), some (.pointer (some ⟨g, h, none⟩)), some (.int .i64 (x : Int)), some (.int .i64 (cmp3 (K y) (K x))), some (.bool false), some (.bool true)]) (by kernel_rfl) (by kernel_rfl) (pv_guard (by intro p hp; cases hp)) (fun _ _ _ _ h _ _ => h) (fun _ _ _ _ h _ => h) (Chg.refl _ _).drew ⟨?_, ?_, ?_, ?_, ?_, ?_, ?_, ?_, ?_, ?_, ?_, ?_, ?_, ?_, trivial⟩ ?_
          · rintro kc m a w5 hkc hch hm hn
            obtain ⟨e1, -⟩ := hn
            replace e1 : a.tmps[4]?.getD undef = .func (.func 113) #[] #[cb] := e1
            exact rg_val (v := .func (.func 113) #[] #[cb]) (by simp [execOp, go_sem, e1]) rfl hch (Chg.refl _ _) rfl
          · rintro kc m a w5 hkc hch hm hn
            obtain ⟨e1, -⟩ := hn
            replace e1 : a.tmps[0]?.getD undef = .slice (some ⟨g, 0, none⟩) n c := e1
            exact rg_val (v := .slice (some ⟨g, 0, none⟩) n c) (by simp [execOp, go_sem, e1]) rfl hch (Chg.refl _ _) rfl
          · rintro kc m a w5 hkc hch hm hn
            obtain ⟨e1, -⟩ := hn
            replace e1 : a.tmps[22]?.getD undef = .int .i64 ((mi : Int) + (md : Int) - 1) := e1
            exact rg_val (v := .int .i64 ((mi : Int) + (md : Int) - 1)) (by simp [execOp, go_sem, e1]) rfl hch (Chg.refl _ _) rfl
          · rintro kc m a w5 hkc hch hm hn
            obtain ⟨e1, -⟩ := hn
            replace e1 : a.tmps[23]?.getD undef = .int .i64 (h : Int) := e1
            exact rg_val (v := .int .i64 (h : Int)) (by simp [execOp, go_sem, e1]) rfl hch (Chg.refl _ _) rfl
          · rintro kc m a w5 hkc hch hm hn
            obtain ⟨⟨_, e1, _, rfl⟩, ⟨_, e2, _, rfl⟩, -⟩ := hn
            exact rg_val (v := .int .i64 (qq : Int)) (by simp [execOp, go_sem, e1, e2, hwp]) rfl hch (Chg.refl _ _) rfl
          · rintro kc m a w5 hkc hch hm hn
            obtain ⟨⟨_, e1, _, rfl⟩, ⟨_, e2, _, rfl⟩, -⟩ := hn
            exact rg_val (v := .pointer (some ⟨g, qq, none⟩)) (by simp [execOp, go_sem, e1, e2]; exact fun hh => absurd hh (by omega)) rfl hch (Chg.refl _ _) rfl
          · rintro kc m a w5 hkc hch hm hn
            obtain ⟨⟨_, e1, _, rfl⟩, -⟩ := hn
            have c0 := Chg.cell hch cy (fun x => x)
            exact rg_val (v := .int .i64 (y : Int)) (by simp [execOp, go_sem, e1, c0]) rfl hch (Chg.refl _ _) rfl
          · rintro kc m a w5 hkc hch hm hn
            obtain ⟨e1, -⟩ := hn
            replace e1 : a.tmps[0]?.getD undef = .slice (some ⟨g, 0, none⟩) n c := e1
            exact rg_val (v := .slice (some ⟨g, 0, none⟩) n c) (by simp [execOp, go_sem, e1]) rfl hch (Chg.refl _ _) rfl
          · rintro kc m a w5 hkc hch hm hn
            obtain ⟨e1, -⟩ := hn
            replace e1 : a.tmps[23]?.getD undef = .int .i64 (h : Int) := e1
            exact rg_val (v := .int .i64 (h : Int)) (by simp [execOp, go_sem, e1]) rfl hch (Chg.refl _ _) rfl
          · rintro kc m a w5 hkc hch hm hn
            obtain ⟨⟨_, e1, _, rfl⟩, ⟨_, e2, _, rfl⟩, -⟩ := hn
            exact rg_val (v := .pointer (some ⟨g, h, none⟩)) (by simp [execOp, go_sem, e1, e2]; exact fun hh => absurd hh (by omega)) rfl hch (Chg.refl _ _) rfl
          · rintro kc m a w5 hkc hch hm hn
            obtain ⟨⟨_, e1, _, rfl⟩, -⟩ := hn
            have c0 := Chg.cell hch cx (fun x => x)
            exact rg_val (v := .int .i64 (x : Int)) (by simp [execOp, go_sem, e1, c0]) rfl hch (Chg.refl _ _) rfl
          · rintro kc m a w5 hkc hch hm hn
            obtain ⟨⟨_, e1, _, rfl⟩, ⟨_, e2, _, rfl⟩, ⟨_, e3, _, rfl⟩, -⟩ := hn
            refine rg_call (f := 113) (args := #[.int .i64 (y : Int), .int .i64 (x : Int), cb]) (by simp [go_sem, e1, e2, e3]) rfl ?_
            refine (HCC.out _ (hch.mono (fun _ _ x => x.elim)) y x HYM.out HXM.out).mono ?_
            rintro e w6 ⟨rfl, hc6⟩
            exact ⟨_, rfl, hch.trans hc6, hc6, rfl⟩
          · rintro kc m a w5 hkc hch hm hn
            obtain ⟨⟨_, e1, _, rfl⟩, -⟩ := hn
            exact rg_val (v := .bool false) (by simp [execOp, go_sem, e1, hl0]) rfl hch (Chg.refl _ _) rfl
          · rintro kc m a w5 hkc hch hm hn
            obtain ⟨⟨_, e1, _, rfl⟩, -⟩ := hn
            exact rg_val (v := .bool true) (by simp [execOp, go_sem, e1]) rfl hch (Chg.refl _ _) rfl
          rintro m w2 hc2
          simp only [AllVals]
          rintro v0 _ p0 v1 _ p1 v2 _ p2 v3 _ p3 v4 _ p4 v5 _ p5 v6 _ p6 v7 _ p7 v8 _ p8 v9 _ p9 v10 _ p10 v11 _ p11 v12 _ p12 v13 _ p13
          obtain rfl := p13
          clear p0 p1 p2 p3 p4 p5 p6 p7 p8 p9 p10 p11 p12
          simp only [Act.put, List.setIfInBounds_toArray, List.set_cons_succ, List.set_cons_zero]
          have HC2 := Lib.hid hc2
          clear hc2
          have HCX := Lib.hid (HCH2.out.trans (HC2.out.mono (fun _ _ x => x.elim)))
          have HBX := Lib.hid (HBL2.out.chg (F := NoB) HC2.out (fun x => x))
          clear HC2 cx cy hl0 hwp
          go_wp2
          go_roundw
          case rel => exact ⟨h + 1, r, by go_num, rfl, by omega, by omega, hr1, Lib.hid (.inr (by rw [show h + 1 - lo - 1 = h - lo by omega, show mi - (h + 1) = mi - 1 - h by omega, HXE.out, HYE.out]; exact hl)), HJ, HCX.out, HBX.out⟩
          case measure => simp [intOf]; omega
      · have hlt' : ¬ ((s : Int) < (r : Int)) := by omega
        obtain rfl : s = r := by omega
        obtain ⟨U1, U2, V1, V2, hp, l1, l2, l3, l4⟩ := sym_parts (M := M) (s := s) HU.out HV.out HMI.out HSU.out HSV.out HX.out HUM.out HVM.out (by omega) (by omega) (by omega) (by omega) (by rcases HI.out with q | q; exact .inl (by have := HST.out.2.1; omega); exact .inr q) (by rcases HJ.out with q | q; exact .inl (by have := HST.out.2.2; omega); exact .inr q)
        obtain ⟨en, hen⟩ : ∃ en, en = mi + md - s := ⟨_, rfl⟩
        have hen' : (mi : Int) + (md : Int) - (s : Int) = (en : Int) := by omega
        rw [← hen] at l4
        have HL1 := Lib.hid l1
        have HL2 := Lib.hid l2
        have HL3 := Lib.hid l3
        have HL4 := Lib.hid l4
        have HP := Lib.hid hp
        have HEN := Lib.hid hen
        have hbl' := hbl
        rw [hp.u, hp.v] at hbl'
        have HCH2 := Lib.hid hch
        have HBL2 := Lib.hid hbl'
        have HCC := Lib.hid (HC.out.later hch)
        have k1 : s ≤ mi := by omega
        have k2 : s ≤ md := by omega
        have k3 : lo ≤ s := by omega
        have k4 : en ≤ hi := by omega
        clear hch hbl hbl' l1 l2 l3 l4 hp hen hlt HI HJ
        by_cases c1 : s < md
        · have c1' : ((s : Int) < (md : Int)) := by omega
          have c5 : ((mi : Int) < (en : Int)) := by have := HEN.out; omega
          by_cases c6 : s < mi
          · have c6' : ((s : Int) < (mi : Int)) := by omega
            have c7 : ((md : Int) < (en : Int)) := by have := HEN.out; omega
            go_wp2_with fail
            refine (rotate_any _ g c _ (P ++ U1) U2 V1 (V2 ++ Q) rest s md en n (by have := HA.out; have := HL1.out; rw [List.length_append]; omega) HL2.out (by have := HL3.out; have := HEN.out; omega) (by have := HL4.out; have := HN.out; rw [List.length_append]; omega) hn' (by have := HL2.out; omega) (by have := HL3.out; omega) (by rw [List.append_assoc]; exact HBL2.out)).mono ?_
            rintro e w3 ⟨rfl, hc3, hb3⟩
            have HC3 := Lib.hid (HCH2.out.trans hc3)
            have HB3 := Lib.hid (show RowB _ g rest (P ++ (U1 ++ (V1 ++ (U2 ++ (V2 ++ Q))))) by rw [List.append_assoc] at hb3; exact hb3)
            clear hc3 hb3
            by_cases c2 : lo < s
            · have c2' : ((lo : Int) < (s : Int)) := by omega
              go_wp2_with fail
              refine (HIH.out _ P U1 V1 (U2 ++ (V2 ++ Q)) lo s mi (by have := HL1.out; have := HL2.out; have := HL3.out; have := HL4.out; have := HNN.out; have := HU.out; have := HV.out; have := HMI.out; omega) HA.out HL1.out HL3.out (by have := HL2.out; have := HL4.out; have := HEN.out; have := HN.out; simp; omega) (by have := HL1.out; omega) (by have := HL3.out; omega) HB3.out HP.out.s1 HP.out.s3 HP.out.c1 HP.out.m1 HP.out.m3 (HC.out.later HC3.out)).mono ?_
              rintro e w4 ⟨rfl, hc4, hb4⟩
              have HC4 := Lib.hid (HC3.out.trans hc4)
              have HB4 := Lib.hid hb4
              clear hc4 hb4
              by_cases c4 : en < hi
              · have c4' : ((en : Int) < (hi : Int)) := by omega
                go_wp2_with fail
                refine (HIH.out _ (P ++ srt K (U1 ++ V1)) U2 V2 Q mi en hi (by have := HL1.out; have := HL2.out; have := HL3.out; have := HL4.out; have := HNN.out; have := HU.out; have := HV.out; have := HMI.out; omega) (by have := HA.out; have := HL1.out; have := HL3.out; rw [List.length_append, srt_length, List.length_append]; omega) (by have := HL2.out; have := HEN.out; omega) HL4.out HN.out (by have := HL2.out; omega) (by have := HL4.out; omega) (by rw [List.append_assoc]; exact HB4.out) HP.out.s2 HP.out.s4 HP.out.c2 HP.out.m2 HP.out.m4 (HC.out.later HC4.out)).mono ?_
                rintro e w5 ⟨rfl, hc5, hb5⟩
                have HC5 := Lib.hid (HC4.out.trans hc5)
                have HB5 := Lib.hid hb5
                clear hc5 hb5
                go_wp2
                go_end0
                have hz := HB5.out
                rw [List.append_assoc, ← List.append_assoc (srt K (U1 ++ V1)), HP.out.whole] at hz
                exact ⟨rfl, HC5.out, hz⟩
              · have c4' : ¬ ((en : Int) < (hi : Int)) := by omega
                have HC5 := HC4
                have HB5 := Lib.hid (show RowB _ g rest ((P ++ srt K (U1 ++ V1)) ++ (srt K (U2 ++ V2) ++ Q)) from by rw [srt_one_side HP.out.s2 HP.out.s4 (by have := HL2.out; have := HL4.out; omega), List.append_assoc P, List.append_assoc U2]; exact HB4.out)
                go_wp2
                go_end0
                have hz := HB5.out
                rw [List.append_assoc, ← List.append_assoc (srt K (U1 ++ V1)), HP.out.whole] at hz
                exact ⟨rfl, HC5.out, hz⟩
            · have c2' : ¬ ((lo : Int) < (s : Int)) := by omega
              have HC4 := HC3
              have HB4 := Lib.hid (show RowB _ g rest (P ++ (srt K (U1 ++ V1) ++ (U2 ++ (V2 ++ Q)))) from by rw [srt_one_side HP.out.s1 HP.out.s3 (by have := HL1.out; have := HL3.out; omega), List.append_assoc]; exact HB3.out)
              by_cases c4 : en < hi
              · have c4' : ((en : Int) < (hi : Int)) := by omega
                go_wp2_with fail
                refine (HIH.out _ (P ++ srt K (U1 ++ V1)) U2 V2 Q mi en hi (by have := HL1.out; have := HL2.out; have := HL3.out; have := HL4.out; have := HNN.out; have := HU.out; have := HV.out; have := HMI.out; omega) (by have := HA.out; have := HL1.out; have := HL3.out; rw [List.length_append, srt_length, List.length_append]; omega) (by have := HL2.out; have := HEN.out; omega) HL4.out HN.out (by have := HL2.out; omega) (by have := HL4.out; omega) (by rw [List.append_assoc]; exact HB4.out) HP.out.s2 HP.out.s4 HP.out.c2 HP.out.m2 HP.out.m4 (HC.out.later HC4.out)).mono ?_
                rintro e w5 ⟨rfl, hc5, hb5⟩
                have HC5 := Lib.hid (HC4.out.trans hc5)
                have HB5 := Lib.hid hb5
                clear hc5 hb5
                go_wp2
                go_end0
                have hz := HB5.out
                rw [List.append_assoc, ← List.append_assoc (srt K (U1 ++ V1)), HP.out.whole] at hz
                exact ⟨rfl, HC5.out, hz⟩
              · have c4' : ¬ ((en : Int) < (hi : Int)) := by omega
                have HC5 := HC4
                have HB5 := Lib.hid (show RowB _ g rest ((P ++ srt K (U1 ++ V1)) ++ (srt K (U2 ++ V2) ++ Q)) from by rw [srt_one_side HP.out.s2 HP.out.s4 (by have := HL2.out; have := HL4.out; omega), List.append_assoc P, List.append_assoc U2]; exact HB4.out)
                go_wp2
                go_end0
                have hz := HB5.out
                rw [List.append_assoc, ← List.append_assoc (srt K (U1 ++ V1)), HP.out.whole] at hz
                exact ⟨rfl, HC5.out, hz⟩
          · have c6' : ¬ ((s : Int) < (mi : Int)) := by omega
            have c7 : ¬ ((md : Int) < (en : Int)) := by have := HEN.out; omega
            have c8 : ((lo : Int) < (s : Int)) := by omega
            have c9 : ((en : Int) < (hi : Int)) := by have := HEN.out; omega
            have HB3 := Lib.hid (show RowB _ g rest (P ++ (U1 ++ (V1 ++ (U2 ++ (V2 ++ Q))))) by rw [← swap_one_side (U := U2) (V := V1) (.inr (by have := HL3.out; omega))]; exact HBL2.out)
            have HC4 := HCH2
            have HB4 := Lib.hid (show RowB _ g rest (P ++ (srt K (U1 ++ V1) ++ (U2 ++ (V2 ++ Q)))) from by rw [srt_one_side HP.out.s1 HP.out.s3 (by have := HL1.out; have := HL3.out; omega), List.append_assoc]; exact HB3.out)
            go_wp2_with fail
            refine (HIH.out _ (P ++ srt K (U1 ++ V1)) U2 V2 Q mi en hi (by have := HL1.out; have := HL2.out; have := HL3.out; have := HL4.out; have := HNN.out; have := HU.out; have := HV.out; have := HMI.out; omega) (by have := HA.out; have := HL1.out; have := HL3.out; rw [List.length_append, srt_length, List.length_append]; omega) (by have := HL2.out; have := HEN.out; omega) HL4.out HN.out (by have := HL2.out; omega) (by have := HL4.out; omega) (by rw [List.append_assoc]; exact HB4.out) HP.out.s2 HP.out.s4 HP.out.c2 HP.out.m2 HP.out.m4 (HC.out.later HC4.out)).mono ?_
            rintro e w5 ⟨rfl, hc5, hb5⟩
            have HC5 := Lib.hid (HC4.out.trans hc5)
            have HB5 := Lib.hid hb5
            clear hc5 hb5
            go_wp2
            go_end0
            have hz := HB5.out
            rw [List.append_assoc, ← List.append_assoc (srt K (U1 ++ V1)), HP.out.whole] at hz
            exact ⟨rfl, HC5.out, hz⟩
        · exfalso; omega
  · have hm' : ¬ ((md : Int) > (mi : Int)) := by omega
    go_enter Try.func167, Try.ntmps167
    go_wp2_with fail
    obtain ⟨st, hs0⟩ : ∃ st, st = lo := ⟨_, rfl⟩
    obtain ⟨r0, hr0⟩ : ∃ r0, r0 = md := ⟨_, rfl⟩
    have HST := Lib.hid (show (mi + md ≤ st + hi ∧ lo ≤ st ∧ st ≤ r0 ∧ r0 ≤ mi ∧ r0 ≤ md) ∧ (st = lo ∨ st + hi = mi + md) ∧ (r0 = mi ∨ r0 = md) by omega)
    have hb0 := HST.out.1
    have HR0 := Lib.hid hr0
    have HS0 := Lib.hid hs0
    clear hs0 hr0
    go_loopw [20, 21] (fun vi vj wr => ∃ (s r : Nat), vi = .int .i64 (s : Int) ∧ vj = .int .i64 (r : Int) ∧ st ≤ s ∧ s ≤ r ∧ r ≤ r0 ∧ Hid (s = st ∨ K (U.getD (s - lo - 1) 0) ≤ K (V.getD (mi - s) 0)) ∧ Hid (r = r0 ∨ K (V.getD (mi - 1 - r) 0) < K (U.getD (r - lo) 0)) ∧ Chg (· = g) w wr ∧ RowB wr g rest (P ++ (U ++ (V ++ Q)))) (fun vi vj _ => (intOf vj).toNat - (intOf vi).toNat)
    case atStart => exact ⟨st, r0, by rw [HS0.out], by rw [HR0.out], Nat.le_refl _, hb0.2.2.1, Nat.le_refl _, Lib.hid (.inl rfl), Lib.hid (.inl rfl), Chg.refl _ _, HB.out⟩
    case round =>
      obtain ⟨s, r, rfl, rfl, hs1, hsr, hr1, HI, HJ, hch, hbl⟩ := hrel
      by_cases hlt : s < r
      · have hlt' : ((s : Int) < (r : Int)) := by omega
        have p1 : (0 : Int) ≤ (s : Int) + (r : Int) := by omega
        go_wp2_with fail
        obtain ⟨h, hh⟩ : ∃ h : Nat, ((s : Int) + (r : Int)) / 2 = (h : Int) := ⟨(s + r) / 2, by omega⟩
        have HH := Lib.hid hh
        rw [hh]
        have b1 : s ≤ h := by omega
        have b2 : h < r := by omega
        obtain ⟨qq, hq⟩ : ∃ qq, qq = mi + md - 1 - h := ⟨_, rfl⟩
        have hwp : IntKind.i64.wrap ((mi : Int) + (md : Int) - 1 - (h : Int)) = (qq : Int) := by rw [IntKind.wrap_i64]; omega
        have HUL := Lib.hid (show h - lo < U.length by have := HU.out; omega)
        have HVL := Lib.hid (show mi - 1 - h < V.length by have := HV.out; omega)
        have HQ := Lib.hid hq
        have z1 : (qq : Int) < (n : Int) := by omega
        have z2 : (h : Int) < (n : Int) := by omega
        have z3 : (0 : Int) ≤ (qq : Int) := Int.natCast_nonneg _
        have z4 : (0 : Int) ≤ (h : Int) := Int.natCast_nonneg _
        clear hh p1 hq
        obtain ⟨y, hy⟩ : ∃ y, V.getD (mi - 1 - h) 0 = y := ⟨_, rfl⟩
        obtain ⟨x, hx⟩ : ∃ x, U.getD (h - lo) 0 = x := ⟨_, rfl⟩
        have HYM := Lib.hid (show y < M by rw [← hy]; exact HVM.out _ (getD_mem HVL.out))
        have HXM := Lib.hid (show x < M by rw [← hx]; exact HUM.out _ (getD_mem HUL.out))
        have HYE := Lib.hid hy
        have HXE := Lib.hid hx
        have cx := hbl.get (k := h) (by have := HA.out; have := HUL.out; simp; omega)
        rw [getD_app_right (l := h - lo) (by have := HA.out; omega), getD_app_left HUL.out, hx] at cx
        have cy := hbl.get (k := qq) (by have := HA.out; have := HU.out; have := HVL.out; have := HQ.out; simp; omega)
        rw [getD_app_right (l := qq - lo) (by have := HA.out; have := HQ.out; omega), getD_app_right (l := mi - 1 - h) (by have := HU.out; have := HQ.out; omega), getD_app_left HVL.out, hy] at cy
        have HBL2 := Lib.hid hbl
        have HCC := Lib.hid (HC.out.later hch)
        have HCH2 := Lib.hid hch
        clear hbl hx hy
        by_cases hl : K y < K x
        · have hl0 : cmp3 (K y) (K x) < 0 := cmp3_lt.2 hl
          clear hch
          go_wp2_with fail
          refine wp_region_ro (gl := []) (WInv := fun _ _ w5 => Chg NoB wr w5) (R := Chg NoB) (Post := PV [some (.func (.func 113) #[] #[cb]), some (.slice (some ⟨g, 0, none⟩) n c), some (.int .i64 ((mi : Int) + (md : Int) - 1)), some (.int .i64 (h : Int)), some (.int .i64 (qq : Int)), some (.pointer (some ⟨g, qq, none⟩)), some (.int .i64 (y : Int)), some (.slice (some ⟨g, 0, none⟩) n c), some (.int .i64 (h : Int)), some (.pointer (some ⟨g, h, none⟩)), some (.int .i64 (x : Int)), some (.int .i64 (cmp3 (K y) (K x))), some (.bool true), some (.bool false)]) (by kernel_rfl) (by kernel_rfl) (pv_guard (by intro p hp; cases hp)) (fun _ _ _ _ h _ _ => h) (fun _ _ _ _ h _ => h) (Chg.refl _ _).drew ⟨?_, ?_, ?_, ?_, ?_, ?_, ?_, ?_, ?_, ?_, ?_, ?_, ?_, ?_, trivial⟩ ?_
          · rintro kc m a w5 hkc hch hm hn
            obtain ⟨e1, -⟩ := hn
            replace e1 : a.tmps[4]?.getD undef = .func (.func 113) #[] #[cb] := e1
            exact rg_val (v := .func (.func 113) #[] #[cb]) (by simp [execOp, go_sem, e1]) rfl hch (Chg.refl _ _) rfl
          · rintro kc m a w5 hkc hch hm hn
            obtain ⟨e1, -⟩ := hn
            replace e1 : a.tmps[0]?.getD undef = .slice (some ⟨g, 0, none⟩) n c := e1
            exact rg_val (v := .slice (some ⟨g, 0, none⟩) n c) (by simp [execOp, go_sem, e1]) rfl hch (Chg.refl _ _) rfl
          · rintro kc m a w5 hkc hch hm hn
            obtain ⟨e1, -⟩ := hn
            replace e1 : a.tmps[22]?.getD undef = .int .i64 ((mi : Int) + (md : Int) - 1) := e1
            exact rg_val (v := .int .i64 ((mi : Int) + (md : Int) - 1)) (by simp [execOp, go_sem, e1]) rfl hch (Chg.refl _ _) rfl
          · rintro kc m a w5 hkc hch hm hn
            obtain ⟨e1, -⟩ := hn
            replace e1 : a.tmps[23]?.getD undef = .int .i64 (h : Int) := e1
            exact rg_val (v := .int .i64 (h : Int)) (by simp [execOp, go_sem, e1]) rfl hch (Chg.refl _ _) rfl
          · rintro kc m a w5 hkc hch hm hn
            obtain ⟨⟨_, e1, _, rfl⟩, ⟨_, e2, _, rfl⟩, -⟩ := hn
            exact rg_val (v := .int .i64 (qq : Int)) (by simp [execOp, go_sem, e1, e2, hwp]) rfl hch (Chg.refl _ _) rfl
          · rintro kc m a w5 hkc hch hm hn
            obtain ⟨⟨_, e1, _, rfl⟩, ⟨_, e2, _, rfl⟩, -⟩ := hn
            exact rg_val (v := .pointer (some ⟨g, qq, none⟩)) (by simp [execOp, go_sem, e1, e2]; exact fun hh => absurd hh (by omega)) rfl hch (Chg.refl _ _) rfl
          · rintro kc m a w5 hkc hch hm hn
            obtain ⟨⟨_, e1, _, rfl⟩, -⟩ := hn
            have c0 := Chg.cell hch cy (fun x => x)
            exact rg_val (v := .int .i64 (y : Int)) (by simp [execOp, go_sem, e1, c0]) rfl hch (Chg.refl _ _) rfl
          · rintro kc m a w5 hkc hch hm hn
            obtain ⟨e1, -⟩ := hn
            replace e1 : a.tmps[0]?.getD undef = .slice (some ⟨g, 0, none⟩) n c := e1
            exact rg_val (v := .slice (some ⟨g, 0, none⟩) n c) (by simp [execOp, go_sem, e1]) rfl hch (Chg.refl _ _) rfl
          · rintro kc m a w5 hkc hch hm hn
            obtain ⟨e1, -⟩ := hn
            replace e1 : a.tmps[23]?.getD undef = .int .i64 (h : Int) := e1
            exact rg_val (v := .int .i64 (h : Int)) (by simp [execOp, go_sem, e1]) rfl hch (Chg.refl _ _) rfl
          · rintro kc m a w5 hkc hch hm hn
            obtain ⟨⟨_, e1, _, rfl⟩, ⟨_, e2, _, rfl⟩, -⟩ := hn
            exact rg_val (v := .pointer (some ⟨g, h, none⟩)) (by simp [execOp, go_sem, e1, e2]; exact fun hh => absurd hh (by omega)) rfl hch (Chg.refl _ _) rfl
          · rintro kc m a w5 hkc hch hm hn
            obtain ⟨⟨_, e1, _, rfl⟩, -⟩ := hn
            have c0 := Chg.cell hch cx (fun x => x)
            exact rg_val (v := .int .i64 (x : Int)) (by simp [execOp, go_sem, e1, c0]) rfl hch (Chg.refl _ _) rfl
          · rintro kc m a w5 hkc hch hm hn
            obtain ⟨⟨_, e1, _, rfl⟩, ⟨_, e2, _, rfl⟩, ⟨_, e3, _, rfl⟩, -⟩ := hn
            refine rg_call (f := 113) (args := #[.int .i64 (y : Int), .int .i64 (x : Int), cb]) (by simp [go_sem, e1, e2, e3]) rfl ?_
            refine (HCC.out _ (hch.mono (fun _ _ x => x.elim)) y x HYM.out HXM.out).mono ?_
            rintro e w6 ⟨rfl, hc6⟩
            exact ⟨_, rfl, hch.trans hc6, hc6, rfl⟩
          · rintro kc m a w5 hkc hch hm hn
            obtain ⟨⟨_, e1, _, rfl⟩, -⟩ := hn
            exact rg_val (v := .bool true) (by simp [execOp, go_sem, e1, hl0]) rfl hch (Chg.refl _ _) rfl
          · rintro kc m a w5 hkc hch hm hn
            obtain ⟨⟨_, e1, _, rfl⟩, -⟩ := hn
            exact rg_val (v := .bool false) (by simp [execOp, go_sem, e1]) rfl hch (Chg.refl _ _) rfl
          rintro m w2 hc2
          simp only [AllVals]
          rintro v0 _ p0 v1 _ p1 v2 _ p2 v3 _ p3 v4 _ p4 v5 _ p5 v6 _ p6 v7 _ p7 v8 _ p8 v9 _ p9 v10 _ p10 v11 _ p11 v12 _ p12 v13 _ p13
          obtain rfl := p13
          clear p0 p1 p2 p3 p4 p5 p6 p7 p8 p9 p10 p11 p12
          simp only [Act.put, List.setIfInBounds_toArray, List.set_cons_succ, List.set_cons_zero]
          have HC2 := Lib.hid hc2
          clear hc2
          have HCX := Lib.hid (HCH2.out.trans (HC2.out.mono (fun _ _ x => x.elim)))
          have HBX := Lib.hid (HBL2.out.chg (F := NoB) HC2.out (fun x => x))
          clear HC2 cx cy hl0 hwp
          go_wp2
          go_roundw
          case rel => exact ⟨s, h, rfl, by go_num, hs1, b1, by omega, HI, Lib.hid (.inr (by rw [HXE.out, HYE.out]; exact hl)), HCX.out, HBX.out⟩
          case measure => simp [intOf]; omega
        · have hl0 : ¬ cmp3 (K y) (K x) < 0 := fun q => hl (cmp3_lt.1 q)
          clear hch
          go_wp2_with fail
          refine wp_region_ro (gl := []) (WInv := fun _ _ w5 => Chg NoB wr w5) (R := Chg NoB) (Post := PV [some (.func (.func 113) #[] #[cb]), some (.slice (some ⟨g, 0, none⟩) n c), some (.int .i64 ((mi : Int) + (md : Int) - 1)), some (.int .i64 (h : Int)), some (.int .i64 (qq : Int)), some (.pointer (some ⟨g, qq, none⟩)), some (.int .i64 (y : Int)), some (.slice (some ⟨g, 0, none⟩) n c), some (.int .i64 (h : Int)), some (.pointer (some ⟨g, h, none⟩)), some (.int .i64 (x : Int)), some (.int .i64 (cmp3 (K y) (K x))), some (.bool false), some (.bool true)]) (by kernel_rfl) (by kernel_rfl) (pv_guard (by intro p hp; cases hp)) (fun _ _ _ _ h _ _ => h) (fun _ _ _ _ h _ => h) (Chg.refl _ _).drew ⟨?_, ?_, ?_, ?_, ?_, ?_, ?_, ?_, ?_, ?_, ?_, ?_, ?_, ?_, trivial⟩ ?_
          · rintro kc m a w5 hkc hch hm hn
            obtain ⟨e1, -⟩ := hn
            replace e1 : a.tmps[4]?.getD undef = .func (.func 113) #[] #[cb] := e1
            exact rg_val (v := .func (.func 113) #[] #[cb]) (by simp [execOp, go_sem, e1]) rfl hch (Chg.refl _ _) rfl
          · rintro kc m a w5 hkc hch hm hn
            obtain ⟨e1, -⟩ := hn
            replace e1 : a.tmps[0]?.getD undef = .slice (some ⟨g, 0, none⟩) n c := e1
            exact rg_val (v := .slice (some ⟨g, 0, none⟩) n c) (by simp [execOp, go_sem, e1]) rfl hch (Chg.refl _ _) rfl
          · rintro kc m a w5 hkc hch hm hn
            obtain ⟨e1, -⟩ := hn
            replace e1 : a.tmps[22]?.getD undef = .int .i64 ((mi : Int) + (md : Int) - 1) := e1
            exact rg_val (v := .int .i64 ((mi : Int) + (md : Int) - 1)) (by simp [execOp, go_sem, e1]) rfl hch (Chg.refl _ _) rfl
          · rintro kc m a w5 hkc hch hm hn
            obtain ⟨e1, -⟩ := hn
            replace e1 : a.tmps[23]?.getD undef = .int .i64 (h : Int) := e1
            exact rg_val (v := .int .i64 (h : Int)) (by simp [execOp, go_sem, e1]) rfl hch (Chg.refl _ _) rfl
          · rintro kc m a w5 hkc hch hm hn
            obtain ⟨⟨_, e1, _, rfl⟩, ⟨_, e2, _, rfl⟩, -⟩ := hn
            exact rg_val (v := .int .i64 (qq : Int)) (by simp [execOp, go_sem, e1, e2, hwp]) rfl hch (Chg.refl _ _) rfl
          · rintro kc m a w5 hkc hch hm hn
            obtain ⟨⟨_, e1, _, rfl⟩, ⟨_, e2, _, rfl⟩, -⟩ := hn
            exact rg_val (v := .pointer (some ⟨g, qq, none⟩)) (by simp [execOp, go_sem, e1, e2]; exact fun hh => absurd hh (by omega)) rfl hch (Chg.refl _ _) rfl
          · rintro kc m a w5 hkc hch hm hn
            obtain ⟨⟨_, e1, _, rfl⟩, -⟩ := hn
            have c0 := Chg.cell hch cy (fun x => x)
            exact rg_val (v := .int .i64 (y : Int)) (by simp [execOp, go_sem, e1, c0]) rfl hch (Chg.refl _ _) rfl
          · rintro kc m a w5 hkc hch hm hn
            obtain ⟨e1, -⟩ := hn
            replace e1 : a.tmps[0]?.getD undef = .slice (some ⟨g, 0, none⟩) n c := e1
            exact rg_val (v := .slice (some ⟨g, 0, none⟩) n c) (by simp [execOp, go_sem, e1]) rfl hch (Chg.refl _ _) rfl
          · rintro kc m a w5 hkc hch hm hn
            obtain ⟨e1, -⟩ := hn
            replace e1 : a.tmps[23]?.getD undef = .int .i64 (h : Int) := e1
            exact rg_val (v := .int .i64 (h : Int)) (by simp [execOp, go_sem, e1]) rfl hch (Chg.refl _ _) rfl
          · rintro kc m a w5 hkc hch hm hn
            obtain ⟨⟨_, e1, _, rfl⟩, ⟨_, e2, _, rfl⟩, -⟩ := hn
            exact rg_val (v := .pointer (some ⟨g, h, none⟩)) (by simp [execOp, go_sem, e1, e2]; exact fun hh => absurd hh (by omega)) rfl hch (Chg.refl _ _) rfl
          · rintro kc m a w5 hkc hch hm hn
            obtain ⟨⟨_, e1, _, rfl⟩, -⟩ := hn
            have c0 := Chg.cell hch cx (fun x => x)
            exact rg_val (v := .int .i64 (x : Int)) (by simp [execOp, go_sem, e1, c0]) rfl hch (Chg.refl _ _) rfl
          · rintro kc m a w5 hkc hch hm hn
            obtain ⟨⟨_, e1, _, rfl⟩, ⟨_, e2, _, rfl⟩, ⟨_, e3, _, rfl⟩, -⟩ := hn
            refine rg_call (f := 113) (args := #[.int .i64 (y : Int), .int .i64 (x : Int), cb]) (by simp [go_sem, e1, e2, e3]) rfl ?_
            refine (HCC.out _ (hch.mono (fun _ _ x => x.elim)) y x HYM.out HXM.out).mono ?_
            rintro e w6 ⟨rfl, hc6⟩
            exact ⟨_, rfl, hch.trans hc6, hc6, rfl⟩
          · rintro kc m a w5 hkc hch hm hn
            obtain ⟨⟨_, e1, _, rfl⟩, -⟩ := hn
            exact rg_val (v := .bool false) (by simp [execOp, go_sem, e1, hl0]) rfl hch (Chg.refl _ _) rfl
          · rintro kc m a w5 hkc hch hm hn
            obtain ⟨⟨_, e1, _, rfl⟩, -⟩ := hn
            exact rg_val (v := .bool true) (by simp [execOp, go_sem, e1]) rfl hch (Chg.refl _ _) rfl
          rintro m w2 hc2
          simp only [AllVals]
          rintro v0 _ p0 v1 _ p1 v2 _ p2 v3 _ p3 v4 _ p4 v5 _ p5 v6 _ p6 v7 _ p7 v8 _ p8 v9 _ p9 v10 _ p10 v11 _ p11 v12 _ p12 v13 _ p13
          obtain rfl := p13
          clear p0 p1 p2 p3 p4 p5 p6 p7 p8 p9 p10 p11 p12
          simp only [Act.put, List.setIfInBounds_toArray, List.set_cons_succ, List.set_cons_zero]
          have HC2 := Lib.hid hc2
          clear hc2
          have HCX := Lib.hid (HCH2.out.trans (HC2.out.mono (fun _ _ x => x.elim)))
          have HBX := Lib.hid (HBL2.out.chg (F := NoB) HC2.out (fun x => x))
          clear HC2 cx cy hl0 hwp
          go_wp2
          go_roundw
          case rel => exact ⟨h + 1, r, by go_num, rfl, by omega, by omega, hr1, Lib.hid (.inr (by rw [show h + 1 - lo - 1 = h - lo by omega, show mi - (h + 1) = mi - 1 - h by omega, HXE.out, HYE.out]; exact hl)), HJ, HCX.out, HBX.out⟩
          case measure => simp [intOf]; omega
      · have hlt' : ¬ ((s : Int) < (r : Int)) := by omega
        obtain rfl : s = r := by omega
        obtain ⟨U1, U2, V1, V2, hp, l1, l2, l3, l4⟩ := sym_parts (M := M) (s := s) HU.out HV.out HMI.out HSU.out HSV.out HX.out HUM.out HVM.out (by omega) (by omega) (by omega) (by omega) (by rcases HI.out with q | q; exact .inl (by have := HST.out.2.1; omega); exact .inr q) (by rcases HJ.out with q | q; exact .inl (by have := HST.out.2.2; omega); exact .inr q)
        obtain ⟨en, hen⟩ : ∃ en, en = mi + md - s := ⟨_, rfl⟩
        have hen' : (mi : Int) + (md : Int) - (s : Int) = (en : Int) := by omega
        rw [← hen] at l4
        have HL1 := Lib.hid l1
        have HL2 := Lib.hid l2
        have HL3 := Lib.hid l3
        have HL4 := Lib.hid l4
        have HP := Lib.hid hp
        have HEN := Lib.hid hen
        have hbl' := hbl
        rw [hp.u, hp.v] at hbl'
        have HCH2 := Lib.hid hch
        have HBL2 := Lib.hid hbl'
        have HCC := Lib.hid (HC.out.later hch)
        have k1 : s ≤ mi := by omega
        have k2 : s ≤ md := by omega
        have k3 : lo ≤ s := by omega
        have k4 : en ≤ hi := by omega
        clear hch hbl hbl' l1 l2 l3 l4 hp hen hlt HI HJ
        by_cases c1 : s < md
        · have c1' : ((s : Int) < (md : Int)) := by omega
          have c5 : ((mi : Int) < (en : Int)) := by have := HEN.out; omega
          by_cases c6 : s < mi
          · have c6' : ((s : Int) < (mi : Int)) := by omega
            have c7 : ((md : Int) < (en : Int)) := by have := HEN.out; omega
            go_wp2_with fail
            refine (rotate_any _ g c _ (P ++ U1) U2 V1 (V2 ++ Q) rest s md en n (by have := HA.out; have := HL1.out; rw [List.length_append]; omega) HL2.out (by have := HL3.out; have := HEN.out; omega) (by have := HL4.out; have := HN.out; rw [List.length_append]; omega) hn' (by have := HL2.out; omega) (by have := HL3.out; omega) (by rw [List.append_assoc]; exact HBL2.out)).mono ?_
            rintro e w3 ⟨rfl, hc3, hb3⟩
            have HC3 := Lib.hid (HCH2.out.trans hc3)
            have HB3 := Lib.hid (show RowB _ g rest (P ++ (U1 ++ (V1 ++ (U2 ++ (V2 ++ Q))))) by rw [List.append_assoc] at hb3; exact hb3)
            clear hc3 hb3
            by_cases c2 : lo < s
            · have c2' : ((lo : Int) < (s : Int)) := by omega
              go_wp2_with fail
              refine (HIH.out _ P U1 V1 (U2 ++ (V2 ++ Q)) lo s mi (by have := HL1.out; have := HL2.out; have := HL3.out; have := HL4.out; have := HNN.out; have := HU.out; have := HV.out; have := HMI.out; omega) HA.out HL1.out HL3.out (by have := HL2.out; have := HL4.out; have := HEN.out; have := HN.out; simp; omega) (by have := HL1.out; omega) (by have := HL3.out; omega) HB3.out HP.out.s1 HP.out.s3 HP.out.c1 HP.out.m1 HP.out.m3 (HC.out.later HC3.out)).mono ?_
              rintro e w4 ⟨rfl, hc4, hb4⟩
              have HC4 := Lib.hid (HC3.out.trans hc4)
              have HB4 := Lib.hid hb4
              clear hc4 hb4
              by_cases c4 : en < hi
              · have c4' : ((en : Int) < (hi : Int)) := by omega
                go_wp2_with fail
                refine (HIH.out _ (P ++ srt K (U1 ++ V1)) U2 V2 Q mi en hi (by have := HL1.out; have := HL2.out; have := HL3.out; have := HL4.out; have := HNN.out; have := HU.out; have := HV.out; have := HMI.out; omega) (by have := HA.out; have := HL1.out; have := HL3.out; rw [List.length_append, srt_length, List.length_append]; omega) (by have := HL2.out; have := HEN.out; omega) HL4.out HN.out (by have := HL2.out; omega) (by have := HL4.out; omega) (by rw [List.append_assoc]; exact HB4.out) HP.out.s2 HP.out.s4 HP.out.c2 HP.out.m2 HP.out.m4 (HC.out.later HC4.out)).mono ?_
                rintro e w5 ⟨rfl, hc5, hb5⟩
                have HC5 := Lib.hid (HC4.out.trans hc5)
                have HB5 := Lib.hid hb5
                clear hc5 hb5
                go_wp2
                go_end0
                have hz := HB5.out
                rw [List.append_assoc, ← List.append_assoc (srt K (U1 ++ V1)), HP.out.whole] at hz
                exact ⟨rfl, HC5.out, hz⟩
              · have c4' : ¬ ((en : Int) < (hi : Int)) := by omega
                have HC5 := HC4
                have HB5 := Lib.hid (show RowB _ g rest ((P ++ srt K (U1 ++ V1)) ++ (srt K (U2 ++ V2) ++ Q)) from by rw [srt_one_side HP.out.s2 HP.out.s4 (by have := HL2.out; have := HL4.out; omega), List.append_assoc P, List.append_assoc U2]; exact HB4.out)
                go_wp2
                go_end0
                have hz := HB5.out
                rw [List.append_assoc, ← List.append_assoc (srt K (U1 ++ V1)), HP.out.whole] at hz
                exact ⟨rfl, HC5.out, hz⟩
            · have c2' : ¬ ((lo : Int) < (s : Int)) := by omega
              have HC4 := HC3
              have HB4 := Lib.hid (show RowB _ g rest (P ++ (srt K (U1 ++ V1) ++ (U2 ++ (V2 ++ Q)))) from by rw [srt_one_side HP.out.s1 HP.out.s3 (by have := HL1.out; have := HL3.out; omega), List.append_assoc]; exact HB3.out)
              by_cases c4 : en < hi
              · have c4' : ((en : Int) < (hi : Int)) := by omega
                go_wp2_with fail
                refine (HIH.out _ (P ++ srt K (U1 ++ V1)) U2 V2 Q mi en hi (by have := HL1.out; have := HL2.out; have := HL3.out; have := HL4.out; have := HNN.out; have := HU.out; have := HV.out; have := HMI.out; omega) (by have := HA.out; have := HL1.out; have := HL3.out; rw [List.length_append, srt_length, List.length_append]; omega) (by have := HL2.out; have := HEN.out; omega) HL4.out HN.out (by have := HL2.out; omega) (by have := HL4.out; omega) (by rw [List.append_assoc]; exact HB4.out) HP.out.s2 HP.out.s4 HP.out.c2 HP.out.m2 HP.out.m4 (HC.out.later HC4.out)).mono ?_
                rintro e w5 ⟨rfl, hc5, hb5⟩
                have HC5 := Lib.hid (HC4.out.trans hc5)
                have HB5 := Lib.hid hb5
                clear hc5 hb5
                go_wp2
                go_end0
                have hz := HB5.out
                rw [List.append_assoc, ← List.append_assoc (srt K (U1 ++ V1)), HP.out.whole] at hz
                exact ⟨rfl, HC5.out, hz⟩
              · have c4' : ¬ ((en : Int) < (hi : Int)) := by omega
                have HC5 := HC4
                have HB5 := Lib.hid (show RowB _ g rest ((P ++ srt K (U1 ++ V1)) ++ (srt K (U2 ++ V2) ++ Q)) from by rw [srt_one_side HP.out.s2 HP.out.s4 (by have := HL2.out; have := HL4.out; omega), List.append_assoc P, List.append_assoc U2]; exact HB4.out)
                go_wp2
                go_end0
                have hz := HB5.out
                rw [List.append_assoc, ← List.append_assoc (srt K (U1 ++ V1)), HP.out.whole] at hz
                exact ⟨rfl, HC5.out, hz⟩
          · exfalso; omega
        · have c1' : ¬ ((s : Int) < (md : Int)) := by omega
          have c5 : ¬ ((mi : Int) < (en : Int)) := by have := HEN.out; omega
          have c8 : ((lo : Int) < (s : Int)) := by omega
          have HB3 := Lib.hid (show RowB _ g rest (P ++ (U1 ++ (V1 ++ (U2 ++ (V2 ++ Q))))) by rw [← swap_one_side (U := U2) (V := V1) (.inl (by have := HL2.out; omega))]; exact HBL2.out)
          by_cases c3 : s < mi
          · have c3' : ((s : Int) < (mi : Int)) := by omega
            go_wp2_with fail
            refine (HIH.out _ P U1 V1 (U2 ++ (V2 ++ Q)) lo s mi (by have := HL1.out; have := HL2.out; have := HL3.out; have := HL4.out; have := HNN.out; have := HU.out; have := HV.out; have := HMI.out; omega) HA.out HL1.out HL3.out (by have := HL2.out; have := HL4.out; have := HEN.out; have := HN.out; simp; omega) (by have := HL1.out; omega) (by have := HL3.out; omega) HB3.out HP.out.s1 HP.out.s3 HP.out.c1 HP.out.m1 HP.out.m3 (HC.out.later HCH2.out)).mono ?_
            rintro e w4 ⟨rfl, hc4, hb4⟩
            have HC4 := Lib.hid (HCH2.out.trans hc4)
            have HB4 := Lib.hid hb4
            clear hc4 hb4
            have HC5 := HC4
            have HB5 := Lib.hid (show RowB _ g rest ((P ++ srt K (U1 ++ V1)) ++ (srt K (U2 ++ V2) ++ Q)) from by rw [srt_one_side HP.out.s2 HP.out.s4 (by have := HL2.out; have := HL4.out; omega), List.append_assoc P, List.append_assoc U2]; exact HB4.out)
            go_wp2
            go_end0
            have hz := HB5.out
            rw [List.append_assoc, ← List.append_assoc (srt K (U1 ++ V1)), HP.out.whole] at hz
            exact ⟨rfl, HC5.out, hz⟩
          · have c3' : ¬ ((s : Int) < (mi : Int)) := by omega
            have HC4 := HCH2
            have HB4 := Lib.hid (show RowB _ g rest (P ++ (srt K (U1 ++ V1) ++ (U2 ++ (V2 ++ Q)))) from by rw [srt_one_side HP.out.s1 HP.out.s3 (by have := HL1.out; have := HL3.out; omega), List.append_assoc]; exact HB3.out)
            have HC5 := HC4
            have HB5 := Lib.hid (show RowB _ g rest ((P ++ srt K (U1 ++ V1)) ++ (srt K (U2 ++ V2) ++ Q)) from by rw [srt_one_side HP.out.s2 HP.out.s4 (by have := HL2.out; have := HL4.out; omega), List.append_assoc P, List.append_assoc U2]; exact HB4.out)
            go_wp2
            go_end0
            have hz := HB5.out
            rw [List.append_assoc, ← List.append_assoc (srt K (U1 ++ V1)), HP.out.whole] at hz
            exact ⟨rfl, HC5.out, hz⟩
theorem sym_all (K : Nat → Int) (M g c : Nat) (cb : Value) (n : Nat) (rest : List Value) (hn' : n ≤ 1000) : ∀ N, SymP K M g c cb n rest N
  | 0 => fun w P U V Q lo md hi hN _ _ _ _ h1 _ => by omega
  | N + 1 => fun w P U V Q lo md hi hN ha hu hv hn h1 h2 hB hU hV hX hUM hVM hC => by
    by_cases hu1 : U.length = 1
    · obtain ⟨x, rfl⟩ := List.length_eq_one_iff.1 hu1
      exact symL_any w g c cb K M P V Q x rest lo md hi n ha (by simpa using hu) hv hn hn' h2 (by simpa using hB) hV (fun y hy h => hX x (by simp) y hy h) (hUM x (by simp)) hVM hC
    by_cases hv1 : V.length = 1
    · obtain ⟨y, rfl⟩ := List.length_eq_one_iff.1 hv1
      exact symR_any w g c cb K M P U Q y rest lo md hi n ha hu (by simpa using hv) hn hn' (by omega) (by simpa using hB) hU (fun x hx h => hX x hx y (by simp) h) (hVM y (by simp)) hUM hC
    exact symG_any w g c cb K M N P U V Q rest lo md hi n (sym_all K M g c cb n rest hn' N) hN ha hu hv hn hn' (by omega) (by omega) hB hU hV hX hUM hVM hC
end Go.Proofs.Ytpiojofmflfkkaa
/- slices.SortStableFunc at 48 numbers or fewer, in ascending order: sorted by the key. -/
namespace Go.Proofs.Ytpiojofmflfkkaa
open Go.RowKit
theorem insSort_at (w : World) (g c : Nat) (cb : Value) (K : Nat → Int) (M : Nat) (P X Q : List Nat) (rest : List Value) (lo hi n : Nat) (z1 z2 : Int) (h1 : z1 = (lo : Int)) (h2 : z2 = (hi : Int)) (ha : P.length = lo) (hb : lo + X.length = hi) (hn : hi + Q.length = n) (hn' : n ≤ 1000)
    (hB : RowB w g rest (P ++ (X ++ Q))) (hM : ∀ x ∈ X, x < M) (hX : X.Pairwise (· < ·)) (hC : CmpP w g cb K M) :
    Calls Try.prog 166 #[.slice (some ⟨g, 0, none⟩) n c, .int .i64 z1, .int .i64 z2, .func (.func 113) #[] #[cb]] w (RowP w g rest (P ++ (srt K X ++ Q))) := by
  subst h1 h2
  exact insSort_any w g c cb K M P X Q rest lo hi n ha hb hn hn' hB hM hX hC
theorem sym_at (w : World) (g c : Nat) (cb : Value) (K : Nat → Int) (M : Nat) (P U V Q : List Nat) (rest : List Value) (lo md hi n : Nat) (z1 z2 z3 : Int) (q1 : z1 = (lo : Int)) (q2 : z2 = (md : Int)) (q3 : z3 = (hi : Int)) (ha : P.length = lo) (hu : lo + U.length = md) (hv : md + V.length = hi) (hn : hi + Q.length = n) (hn' : n ≤ 1000) (h1 : 1 ≤ U.length) (h2 : 1 ≤ V.length)
    (hB : RowB w g rest (P ++ (U ++ (V ++ Q)))) (hU : Srt K U) (hV : Srt K V) (hX : Cross K U V) (hUM : ∀ x ∈ U, x < M) (hVM : ∀ y ∈ V, y < M) (hC : CmpP w g cb K M) :
    Calls Try.prog 167 #[.slice (some ⟨g, 0, none⟩) n c, .int .i64 z1, .int .i64 z2, .int .i64 z3, .func (.func 113) #[] #[cb]] w (RowP w g rest (P ++ (srt K (U ++ V) ++ Q))) := by
  subst q1 q2 q3
  exact sym_all K M g c cb n rest hn' _ w P U V Q lo md hi (Nat.le_refl _) ha hu hv hn h1 h2 hB hU hV hX hUM hVM hC
theorem lt_app {X Y : List Nat} (h : (X ++ Y).Pairwise (· < ·)) : X.Pairwise (· < ·) ∧ Y.Pairwise (· < ·) := ⟨(List.pairwise_append.1 h).1, (List.pairwise_append.1 h).2.1⟩
set_option maxRecDepth 100000 in
set_option maxHeartbeats 16000000 in
theorem stable_any (w : World) (g c : Nat) (cb : Value) (K : Nat → Int) (M : Nat) (L : List Nat) (rest : List Value) (n : Nat) (hn : L.length = n) (hn' : n ≤ 48)
    (hB : RowB w g rest L) (hM : ∀ x ∈ L, x < M) (hL : L.Pairwise (· < ·)) (hC : CmpP w g cb K M) :
    Calls Try.prog 153 #[.slice (some ⟨g, 0, none⟩) n c, .int .i64 (n : Int), .func (.func 113) #[] #[cb]] w (RowP w g rest (srt K L)) := by
  have HN := Lib.hid hn
  have HC := Lib.hid hC
  by_cases c1 : n < 20
  · have c1' : ¬ ((20 : Int) ≤ (n : Int)) := by omega
    have c2' : ¬ ((20 : Int) < (n : Int)) := by omega
    have HB := Lib.hid (show RowB w g rest ([] ++ (L ++ [])) by simpa using hB)
    have HM := Lib.hid hM
    have HL := Lib.hid hL
    clear hB hM hL hC hn
    go_enter Try.func153, Try.ntmps153
    go_wp2_with fail
    refine wp_loop_rounds 1 ?_
    refine one_round ?_
    go_wp2_with fail
    refine (insSort_at _ g c cb K M [] L [] rest 0 n n _ _ (by omega) (by omega) rfl (by have := HN.out; omega) rfl (by omega) HB.out HM.out HL.out HC.out).mono ?_
    rintro e w1 ⟨rfl, hc1, hb1⟩
    have HC1 := Lib.hid hc1
    have HB1 := Lib.hid hb1
    clear hc1 hb1
    go_wp2_with fail
    refine wp_loop_rounds 1 ?_
    refine one_round ?_
    go_wp2
    go_end0
    exact ⟨rfl, HC1.out, by simpa using HB1.out⟩
  obtain ⟨L1, L2, rfl, l1, l2⟩ : ∃ L1 L2, L = L1 ++ L2 ∧ L1.length = 20 ∧ 20 + L2.length = n := ⟨L.take 20, L.drop 20, (List.take_append_drop _ _).symm, by rw [List.length_take]; omega, by rw [List.length_drop]; omega⟩
  have c1' : ((20 : Int) ≤ (n : Int)) := by omega
  have HL1 := Lib.hid l1
  have HL2 := Lib.hid l2
  by_cases c2 : n < 40
  · have c2' : ¬ ((40 : Int) ≤ (n : Int)) := by omega
    have HB := Lib.hid (show RowB w g rest ([] ++ (L1 ++ L2)) by simpa using hB)
    have HM1 := Lib.hid (show ∀ x ∈ L1, x < M from fun x hx => hM x (List.mem_append_left _ hx))
    have HM2 := Lib.hid (show ∀ x ∈ L2, x < M from fun x hx => hM x (List.mem_append_right _ hx))
    have HX1 := Lib.hid (lt_app hL).1
    have HX2 := Lib.hid (lt_app hL).2
    have HX := Lib.hid (cross_of_lt (K := K) hL)
    clear hB hM hL hC hn l1 l2
    by_cases c3 : 20 < n
    · have c3' : ((20 : Int) < (n : Int)) := by omega
      have c4' : ¬ ((40 : Int) < (n : Int)) := by omega
      go_enter Try.func153, Try.ntmps153
      go_wp2_with fail
      refine wp_loop_rounds 2 ?_
      refine one_round ?_
      go_wp2_with fail
      refine (insSort_at _ g c cb K M [] L1 L2 rest 0 20 n _ _ (by omega) (by omega) rfl (by rw [HL1.out]) HL2.out (by omega) HB.out HM1.out HX1.out HC.out).mono ?_
      rintro e w1 ⟨rfl, hc1, hb1⟩
      have HC1 := Lib.hid hc1
      have HB1 := Lib.hid hb1
      clear hc1 hb1
      go_wp2_with fail
      refine one_round ?_
      go_wp2_with fail
      refine (insSort_at _ g c cb K M (srt K L1) L2 [] rest 20 n n _ _ (by omega) (by omega) (by rw [srt_length, HL1.out]) HL2.out rfl (by omega) (by simpa using HB1.out) HM2.out HX2.out (HC.out.later HC1.out)).mono ?_
      rintro e w2 ⟨rfl, hc2, hb2⟩
      have HC2 := Lib.hid (HC1.out.trans hc2)
      have HB2 := Lib.hid hb2
      clear hc2 hb2
      go_wp2_with fail
      refine wp_loop_rounds 2 ?_
      refine one_round ?_
      go_wp2_with fail
      refine wp_loop_rounds 1 ?_
      refine one_round ?_
      go_wp2_with fail
      refine (sym_at _ g c cb K M [] (srt K L1) (srt K L2) [] rest 0 20 n n _ _ _ (by omega) (by omega) (by omega) rfl (by rw [srt_length, HL1.out]) (by rw [srt_length]; exact HL2.out) rfl (by omega) (by rw [srt_length, HL1.out]; omega) (by rw [srt_length]; have := HL2.out; omega) (by simpa using HB2.out) (srt_sorted _) (srt_sorted _) HX.out.srt (fun x hx => HM1.out x (srt_mem.1 hx)) (fun x hx => HM2.out x (srt_mem.1 hx)) (HC.out.later HC2.out)).mono ?_
      rintro e w3 ⟨rfl, hc3, hb3⟩
      have HC3 := Lib.hid (HC2.out.trans hc3)
      have HB3 := Lib.hid hb3
      clear hc3 hb3
      go_wp2_with fail
      refine one_round ?_
      go_wp2
      go_end0
      refine ⟨rfl, HC3.out, ?_⟩
      have hz := HB3.out
      rw [srt_both] at hz
      simpa using hz
    · have c3' : ¬ ((20 : Int) < (n : Int)) := by omega
      go_enter Try.func153, Try.ntmps153
      go_wp2_with fail
      refine wp_loop_rounds 2 ?_
      refine one_round ?_
      go_wp2_with fail
      refine (insSort_at _ g c cb K M [] L1 L2 rest 0 20 n _ _ (by omega) (by omega) rfl (by rw [HL1.out]) HL2.out (by omega) HB.out HM1.out HX1.out HC.out).mono ?_
      rintro e w1 ⟨rfl, hc1, hb1⟩
      have HC1 := Lib.hid hc1
      have HB1 := Lib.hid hb1
      clear hc1 hb1
      go_wp2_with fail
      refine one_round ?_
      go_wp2_with fail
      refine (insSort_at _ g c cb K M (srt K L1) L2 [] rest 20 n n _ _ (by omega) (by omega) (by rw [srt_length, HL1.out]) HL2.out rfl (by omega) (by simpa using HB1.out) HM2.out HX2.out (HC.out.later HC1.out)).mono ?_
      rintro e w2 ⟨rfl, hc2, hb2⟩
      have HC2 := Lib.hid (HC1.out.trans hc2)
      have HB2 := Lib.hid hb2
      clear hc2 hb2
      go_wp2_with fail
      refine wp_loop_rounds 1 ?_
      refine one_round ?_
      go_wp2
      go_end0
      refine ⟨rfl, HC2.out, ?_⟩
      have hz := HB2.out
      have h2 : L2 = [] := List.eq_nil_of_length_eq_zero (by have := HL2.out; omega)
      subst h2
      simpa [srt] using hz
  obtain ⟨L2, L3, rfl, l2, l3⟩ : ∃ X Y, L2 = X ++ Y ∧ X.length = 20 ∧ 40 + Y.length = n := ⟨L2.take 20, L2.drop 20, (List.take_append_drop _ _).symm, by rw [List.length_take]; omega, by rw [List.length_drop]; omega⟩
  clear HL2
  have HL2 := Lib.hid l2
  have HL3 := Lib.hid l3
  have c2' : ((40 : Int) ≤ (n : Int)) := by omega
  have c3' : ¬ ((60 : Int) ≤ (n : Int)) := by omega
  have c4' : ¬ ((80 : Int) ≤ (n : Int)) := by omega
  have c5' : ((20 : Int) < (n : Int)) := by omega
  have c6' : ¬ ((60 : Int) < (n : Int)) := by omega
  have c7' : ¬ ((80 : Int) < (n : Int)) := by omega
  have HB := Lib.hid (show RowB w g rest ([] ++ (L1 ++ (L2 ++ L3))) by simpa using hB)
  have HM1 := Lib.hid (show ∀ x ∈ L1, x < M from fun x hx => hM x (by simp [hx]))
  have HM2 := Lib.hid (show ∀ x ∈ L2, x < M from fun x hx => hM x (by simp [hx]))
  have HM3 := Lib.hid (show ∀ x ∈ L3, x < M from fun x hx => hM x (by simp [hx]))
  rw [← List.append_assoc] at hL
  have HX1 := Lib.hid (lt_app (lt_app hL).1).1
  have HX2 := Lib.hid (lt_app (lt_app hL).1).2
  have HX3 := Lib.hid (lt_app hL).2
  have HXa := Lib.hid (cross_of_lt (K := K) (lt_app hL).1)
  have HXb := Lib.hid (cross_of_lt (K := K) hL)
  clear hB hM hL hC hn l1 l2 l3
  by_cases c8 : 40 < n
  · have c8' : ((40 : Int) < (n : Int)) := by omega
    go_enter Try.func153, Try.ntmps153
    go_wp2_with fail
    refine wp_loop_rounds 3 ?_
    refine one_round ?_
    go_wp2_with fail
    refine (insSort_at _ g c cb K M [] L1 (L2 ++ L3) rest 0 20 n _ _ (by omega) (by omega) rfl (by rw [HL1.out]) (by have := HL2.out; have := HL3.out; rw [List.length_append]; omega) (by omega) HB.out HM1.out HX1.out HC.out).mono ?_
    rintro e w1 ⟨rfl, hc1, hb1⟩
    have HC1 := Lib.hid hc1
    have HB1 := Lib.hid hb1
    clear hc1 hb1
    go_wp2_with fail
    refine one_round ?_
    go_wp2_with fail
    refine (insSort_at _ g c cb K M (srt K L1) L2 L3 rest 20 40 n _ _ (by omega) (by omega) (by rw [srt_length, HL1.out]) (by rw [HL2.out]) HL3.out (by omega) (by simpa using HB1.out) HM2.out HX2.out (HC.out.later HC1.out)).mono ?_
    rintro e w2 ⟨rfl, hc2, hb2⟩
    have HC2 := Lib.hid (HC1.out.trans hc2)
    have HB2 := Lib.hid hb2
    clear hc2 hb2
    go_wp2_with fail
    refine one_round ?_
    go_wp2_with fail
    refine (insSort_at _ g c cb K M (srt K L1 ++ srt K L2) L3 [] rest 40 n n _ _ (by omega) (by omega) (by rw [List.length_append, srt_length, srt_length, HL1.out, HL2.out]) HL3.out rfl (by omega) (by simpa using HB2.out) HM3.out HX3.out (HC.out.later HC2.out)).mono ?_
    rintro e w3 ⟨rfl, hc3, hb3⟩
    have HC3 := Lib.hid (HC2.out.trans hc3)
    have HB3 := Lib.hid hb3
    clear hc3 hb3
    go_wp2_with fail
    refine wp_loop_rounds 3 ?_
    refine one_round ?_
    go_wp2_with fail
    refine wp_loop_rounds 2 ?_
    refine one_round ?_
    go_wp2_with fail
    refine (sym_at _ g c cb K M [] (srt K L1) (srt K L2) (srt K L3) rest 0 20 40 n _ _ _ (by omega) (by omega) (by omega) rfl (by rw [srt_length, HL1.out]) (by rw [srt_length, HL2.out]) (by rw [srt_length]; exact HL3.out) (by omega) (by rw [srt_length, HL1.out]; omega) (by rw [srt_length, HL2.out]; omega) (by simpa using HB3.out) (srt_sorted _) (srt_sorted _) HXa.out.srt (fun x hx => HM1.out x (srt_mem.1 hx)) (fun x hx => HM2.out x (srt_mem.1 hx)) (HC.out.later HC3.out)).mono ?_
    rintro e w4 ⟨rfl, hc4, hb4⟩
    have HC4 := Lib.hid (HC3.out.trans hc4)
    have HB4 := Lib.hid (show RowB _ g rest ([] ++ (srt K (L1 ++ L2) ++ srt K L3)) by rw [srt_both] at hb4; exact hb4)
    clear hc4 hb4
    go_wp2_with fail
    refine one_round ?_
    go_wp2_with fail
    refine one_round ?_
    go_wp2_with fail
    refine wp_loop_rounds 1 ?_
    refine one_round ?_
    go_wp2_with fail
    refine (sym_at _ g c cb K M [] (srt K (L1 ++ L2)) (srt K L3) [] rest 0 40 n n _ _ _ (by omega) (by omega) (by omega) rfl (by rw [srt_length, List.length_append, HL1.out, HL2.out]) (by rw [srt_length]; exact HL3.out) rfl (by omega) (by rw [srt_length, List.length_append, HL1.out]; omega) (by rw [srt_length]; have := HL3.out; omega) (by simpa using HB4.out) (srt_sorted _) (srt_sorted _) HXb.out.srt (fun x hx => by rcases List.mem_append.1 (srt_mem.1 hx) with h | h; exact HM1.out x h; exact HM2.out x h) (fun x hx => HM3.out x (srt_mem.1 hx)) (HC.out.later HC4.out)).mono ?_
    rintro e w5 ⟨rfl, hc5, hb5⟩
    have HC5 := Lib.hid (HC4.out.trans hc5)
    have HB5 := Lib.hid hb5
    clear hc5 hb5
    go_wp2_with fail
    refine one_round ?_
    go_wp2
    go_end0
    refine ⟨rfl, HC5.out, ?_⟩
    have hz := HB5.out
    rw [srt_both] at hz
    simpa using hz
  · have c8' : ¬ ((40 : Int) < (n : Int)) := by omega
    go_enter Try.func153, Try.ntmps153
    go_wp2_with fail
    refine wp_loop_rounds 3 ?_
    refine one_round ?_
    go_wp2_with fail
    refine (insSort_at _ g c cb K M [] L1 (L2 ++ L3) rest 0 20 n _ _ (by omega) (by omega) rfl (by rw [HL1.out]) (by have := HL2.out; have := HL3.out; rw [List.length_append]; omega) (by omega) HB.out HM1.out HX1.out HC.out).mono ?_
    rintro e w1 ⟨rfl, hc1, hb1⟩
    have HC1 := Lib.hid hc1
    have HB1 := Lib.hid hb1
    clear hc1 hb1
    go_wp2_with fail
    refine one_round ?_
    go_wp2_with fail
    refine (insSort_at _ g c cb K M (srt K L1) L2 L3 rest 20 40 n _ _ (by omega) (by omega) (by rw [srt_length, HL1.out]) (by rw [HL2.out]) HL3.out (by omega) (by simpa using HB1.out) HM2.out HX2.out (HC.out.later HC1.out)).mono ?_
    rintro e w2 ⟨rfl, hc2, hb2⟩
    have HC2 := Lib.hid (HC1.out.trans hc2)
    have HB2 := Lib.hid hb2
    clear hc2 hb2
    go_wp2_with fail
    refine one_round ?_
    go_wp2_with fail
    refine (insSort_at _ g c cb K M (srt K L1 ++ srt K L2) L3 [] rest 40 n n _ _ (by omega) (by omega) (by rw [List.length_append, srt_length, srt_length, HL1.out, HL2.out]) HL3.out rfl (by omega) (by simpa using HB2.out) HM3.out HX3.out (HC.out.later HC2.out)).mono ?_
    rintro e w3 ⟨rfl, hc3, hb3⟩
    have HC3 := Lib.hid (HC2.out.trans hc3)
    have HB3 := Lib.hid hb3
    clear hc3 hb3
    go_wp2_with fail
    refine wp_loop_rounds 3 ?_
    refine one_round ?_
    go_wp2_with fail
    refine wp_loop_rounds 2 ?_
    refine one_round ?_
    go_wp2_with fail
    refine (sym_at _ g c cb K M [] (srt K L1) (srt K L2) (srt K L3) rest 0 20 40 n _ _ _ (by omega) (by omega) (by omega) rfl (by rw [srt_length, HL1.out]) (by rw [srt_length, HL2.out]) (by rw [srt_length]; exact HL3.out) (by omega) (by rw [srt_length, HL1.out]; omega) (by rw [srt_length, HL2.out]; omega) (by simpa using HB3.out) (srt_sorted _) (srt_sorted _) HXa.out.srt (fun x hx => HM1.out x (srt_mem.1 hx)) (fun x hx => HM2.out x (srt_mem.1 hx)) (HC.out.later HC3.out)).mono ?_
    rintro e w4 ⟨rfl, hc4, hb4⟩
    have HC4 := Lib.hid (HC3.out.trans hc4)
    have HB4 := Lib.hid (show RowB _ g rest ([] ++ (srt K (L1 ++ L2) ++ srt K L3)) by rw [srt_both] at hb4; exact hb4)
    clear hc4 hb4
    go_wp2_with fail
    refine one_round ?_
    go_wp2_with fail
    refine one_round ?_
    go_wp2
    go_end0
    refine ⟨rfl, HC4.out, ?_⟩
    have hz := HB4.out
    have h2 : L3 = [] := List.eq_nil_of_length_eq_zero (by have := HL3.out; omega)
    subst h2
    simpa [srt] using hz
set_option maxRecDepth 100000 in
set_option maxHeartbeats 4000000 in
theorem SortStable_any (w : World) (g c : Nat) (cb : Value) (K : Nat → Int) (M : Nat) (L : List Nat) (rest : List Value) (n : Nat) (hn : L.length = n) (hn' : n ≤ 48)
    (hB : RowB w g rest L) (hM : ∀ x ∈ L, x < M) (hL : L.Pairwise (· < ·)) (hC : CmpP w g cb K M) :
    Calls Try.prog 112 #[.slice (some ⟨g, 0, none⟩) n c, .func (.func 113) #[] #[cb]] w (RowP w g rest (srt K L)) := by
  have HX := Lib.hid (stable_any w g c cb K M L rest n hn hn' hB hM hL hC)
  clear hn hB hM hL hC
  go_enter Try.func112, Try.ntmps112
  go_wp2_with fail
  refine HX.out.mono ?_
  rintro e w1 ⟨rfl, hc1, hb1⟩
  have HC1 := Lib.hid hc1
  have HB1 := Lib.hid hb1
  clear hc1 hb1
  go_wp2
  go_end0
  exact ⟨rfl, HC1.out, HB1.out⟩
end Go.Proofs.Ytpiojofmflfkkaa
