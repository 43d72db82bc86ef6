/- Sorting by a key, then by number: the plain law of the steps of a stable sort. No program is named here. -/
import Derived.Test.YtenbbkmbnpdfaaaB
namespace Go.Proofs.Ytenbbkmbnpdfaaa
/-- By the key, then by the number. -/
def leK (K : Nat → Int) (x y : Nat) : Bool := decide (K x < K y ∨ (K x = K y ∧ x ≤ y))
def srt (K : Nat → Int) (L : List Nat) : List Nat := L.mergeSort (leK K)
abbrev Srt (K : Nat → Int) (L : List Nat) : Prop := L.Pairwise (fun x y => leK K x y = true)
/-- Of one key: what stands in U comes ahead of what stands in V. -/
def Cross (K : Nat → Int) (U V : List Nat) : Prop := ∀ x ∈ U, ∀ y ∈ V, K x = K y → x ≤ y
section
variable {K : Nat → Int}
theorem leK_iff {x y : Nat} : leK K x y = true ↔ K x < K y ∨ (K x = K y ∧ x ≤ y) := by unfold leK; exact decide_eq_true_iff
theorem leK_trans (a b c : Nat) (h1 : leK K a b = true) (h2 : leK K b c = true) : leK K a c = true := by
  rw [leK_iff] at *; omega
theorem leK_total (a b : Nat) : (leK K a b || leK K b a) = true := by rw [Bool.or_eq_true, leK_iff, leK_iff]; omega
theorem leK_refl (a : Nat) : leK K a a = true := by rw [leK_iff]; omega
theorem leK_anti {a b : Nat} (h1 : leK K a b = true) (h2 : leK K b a = true) : a = b := by rw [leK_iff] at *; omega
theorem srt_perm (L : List Nat) : (srt K L).Perm L := List.mergeSort_perm L _
theorem srt_sorted (L : List Nat) : Srt K (srt K L) := List.pairwise_mergeSort leK_trans leK_total L
theorem srt_eq {S L : List Nat} (hp : S.Perm L) (hs : Srt K S) : S = srt K L :=
  List.Perm.eq_of_pairwise (fun _ _ _ _ h1 h2 => leK_anti h1 h2) hs (srt_sorted L) (hp.trans (srt_perm L).symm)
theorem srt_self {S : List Nat} (hs : Srt K S) : srt K S = S := (srt_eq (List.Perm.refl _) hs).symm
theorem srt_length (L : List Nat) : (srt K L).length = L.length := (srt_perm L).length_eq
theorem srt_mem {L : List Nat} {x : Nat} : x ∈ srt K L ↔ x ∈ L := (srt_perm L).mem_iff
theorem srt_congr {A B : List Nat} (h : A.Perm B) : srt K A = srt K B := srt_eq ((srt_perm A).trans h) (srt_sorted A)
theorem srt_left (A B : List Nat) : srt K (srt K A ++ B) = srt K (A ++ B) := srt_congr ((srt_perm A).append_right B)
theorem srt_both (A B : List Nat) : srt K (srt K A ++ srt K B) = srt K (A ++ B) := srt_congr ((srt_perm A).append (srt_perm B))
theorem Srt.at_ {S : List Nat} (h : Srt K S) {i j : Nat} (hij : i ≤ j) (hj : j < S.length) : leK K (S.getD i 0) (S.getD j 0) = true := by
  rcases Nat.lt_or_ge i j with h1 | h1
  · have := List.pairwise_iff_getElem.1 h i j (by omega) hj h1
    rwa [List.getD_eq_getElem?_getD, List.getD_eq_getElem?_getD, List.getElem?_eq_getElem (by omega), List.getElem?_eq_getElem hj]
  · obtain rfl : i = j := by omega
    exact leK_refl _
theorem getD_mem {S : List Nat} {i : Nat} (h : i < S.length) : S.getD i 0 ∈ S := by
  rw [List.getD_eq_getElem?_getD, List.getElem?_eq_getElem h]; exact List.getElem_mem h
theorem mem_take {S : List Nat} {i x : Nat} (h : x ∈ S.take i) : ∃ k, k < i ∧ k < S.length ∧ S.getD k 0 = x := by
  obtain ⟨k, hk, rfl⟩ := List.getElem_of_mem h
  rw [List.length_take] at hk
  refine ⟨k, by omega, by omega, ?_⟩
  rw [List.getD_eq_getElem?_getD, List.getElem?_eq_getElem (show k < S.length by omega), List.getElem_take]; rfl
theorem mem_drop {S : List Nat} {i x : Nat} (h : x ∈ S.drop i) : ∃ k, i ≤ k ∧ k < S.length ∧ S.getD k 0 = x := by
  obtain ⟨k, hk, rfl⟩ := List.getElem_of_mem h
  rw [List.length_drop] at hk
  refine ⟨i + k, by omega, by omega, ?_⟩
  rw [List.getD_eq_getElem?_getD, List.getElem?_eq_getElem (show i + k < S.length by omega), List.getElem_drop]; rfl
/-- A number is put into a sorted list behind those that it does not come ahead of. -/
theorem ins_right {S : List Nat} {y i : Nat} (hs : Srt K S) (hc : ∀ x ∈ S, K x = K y → x ≤ y) (hi : i ≤ S.length) (h1 : i = 0 ∨ ¬ K y < K (S.getD (i - 1) 0)) (h2 : i = S.length ∨ K y < K (S.getD i 0)) :
    S.take i ++ y :: S.drop i = srt K (S ++ [y]) := by
  apply srt_eq
  · have e : (S.take i ++ y :: S.drop i).Perm (y :: (S.take i ++ S.drop i)) := List.perm_middle
    rw [List.take_append_drop] at e
    exact e.trans (List.perm_append_singleton y S).symm
  · rw [Srt, List.pairwise_append, List.pairwise_cons]
    refine ⟨hs.sublist (List.take_sublist _ _), ⟨fun x hx => ?_, hs.sublist (List.drop_sublist _ _)⟩, fun a ha b hb => ?_⟩
    · obtain ⟨k, hk, hkl, rfl⟩ := mem_drop hx
      have h3 := hs.at_ hk hkl
      rcases h2 with h2 | h2
      · omega
      · exact leK_trans _ _ _ (leK_iff.2 (Or.inl h2)) h3
    · obtain ⟨k, hk, hkl, rfl⟩ := mem_take ha
      have hay : leK K (S.getD k 0) y = true := by
        have h3 := hs.at_ (show k ≤ i - 1 by omega) (show i - 1 < S.length by omega)
        have h4 := hc _ (getD_mem (show i - 1 < S.length by omega))
        rcases h1 with h1 | h1
        · omega
        · exact leK_trans _ _ _ h3 (leK_iff.2 (by omega))
      rcases List.mem_cons.1 hb with rfl | hb
      · exact hay
      · obtain ⟨j, hj, hjl, rfl⟩ := mem_drop hb
        exact hs.at_ (by omega) hjl
/-- A number is put into a sorted list ahead of those that do not come ahead of it. -/
theorem ins_left {S : List Nat} {x i : Nat} (hs : Srt K S) (hc : ∀ y ∈ S, K x = K y → x ≤ y) (hi : i ≤ S.length) (h1 : i = 0 ∨ K (S.getD (i - 1) 0) < K x) (h2 : i = S.length ∨ ¬ K (S.getD i 0) < K x) :
    S.take i ++ x :: S.drop i = srt K (x :: S) := by
  apply srt_eq
  · have e : (S.take i ++ x :: S.drop i).Perm (x :: (S.take i ++ S.drop i)) := List.perm_middle
    rwa [List.take_append_drop] at e
  · rw [Srt, List.pairwise_append, List.pairwise_cons]
    refine ⟨hs.sublist (List.take_sublist _ _), ⟨fun y hy => ?_, hs.sublist (List.drop_sublist _ _)⟩, fun a ha b hb => ?_⟩
    · obtain ⟨k, hk, hkl, rfl⟩ := mem_drop hy
      have h3 := hs.at_ hk hkl
      have h4 := hc _ (getD_mem (show i < S.length by omega))
      rcases h2 with h2 | h2
      · omega
      · exact leK_trans _ _ _ (leK_iff.2 (by omega)) h3
    · obtain ⟨k, hk, hkl, rfl⟩ := mem_take ha
      have hax : leK K (S.getD k 0) x = true := by
        have h3 := hs.at_ (show k ≤ i - 1 by omega) (show i - 1 < S.length by omega)
        rcases h1 with h1 | h1
        · omega
        · exact leK_trans _ _ _ h3 (leK_iff.2 (Or.inl h1))
      rcases List.mem_cons.1 hb with rfl | hb
      · exact hax
      · obtain ⟨j, hj, hjl, rfl⟩ := mem_drop hb
        exact hs.at_ (by omega) hjl
theorem Cross.parts {U V : List Nat} (h : Cross K U V) (i j : Nat) : Cross K (U.take i) (V.take j) ∧ Cross K (U.drop i) (V.drop j) :=
  ⟨fun x hx y hy => h x (List.mem_of_mem_take hx) y (List.mem_of_mem_take hy), fun x hx y hy => h x (List.mem_of_mem_drop hx) y (List.mem_of_mem_drop hy)⟩
/-- Where the two searches of symMerge have met: both halves by themselves, and the whole is sorted. -/
theorem sym_split {U V : List Nat} {M s : Nat} (hU : Srt K U) (hV : Srt K V) (hc : Cross K U V) (h0 : M - V.length ≤ s) (h1 : s ≤ min M U.length)
    (h2 : s = M - V.length ∨ ¬ K (V.getD (M - s) 0) < K (U.getD (s - 1) 0)) (h3 : s = min M U.length ∨ K (V.getD (M - 1 - s) 0) < K (U.getD s 0)) :
    srt K (U.take s ++ V.take (M - s)) ++ srt K (U.drop s ++ V.drop (M - s)) = srt K (U ++ V) := by
  apply srt_eq
  · have e : (U.take s ++ V.take (M - s) ++ (U.drop s ++ V.drop (M - s))).Perm (U ++ V) := by
      have e1 : (V.take (M - s) ++ (U.drop s ++ V.drop (M - s))).Perm (U.drop s ++ (V.take (M - s) ++ V.drop (M - s))) := by
        rw [← List.append_assoc, ← List.append_assoc]
        exact List.perm_append_comm.append_right _
      rw [List.take_append_drop] at e1
      rw [List.append_assoc]
      have e2 := e1.append_left (U.take s)
      rwa [← List.append_assoc (U.take s) (U.drop s), List.take_append_drop] at e2
    exact ((srt_perm _).append (srt_perm _)).trans e
  · rw [Srt, List.pairwise_append]
    refine ⟨srt_sorted _, srt_sorted _, fun a ha b hb => ?_⟩
    rw [srt_mem, List.mem_append] at ha hb
    rcases ha with ha | ha <;> rcases hb with hb | hb <;> obtain ⟨k, hk, hkl, rfl⟩ := mem_take ha <;> obtain ⟨j, hj, hjl, rfl⟩ := mem_drop hb
    · exact hU.at_ (by omega) hjl
    · have q1 := hU.at_ (show k ≤ s - 1 by omega) (show s - 1 < U.length by omega)
      have q2 := hV.at_ hj hjl
      have q3 := hc _ (getD_mem (show s - 1 < U.length by omega)) _ (getD_mem (show M - s < V.length by omega))
      rcases h2 with h2 | h2
      · omega
      · exact leK_trans _ _ _ q1 (leK_trans _ _ _ (leK_iff.2 (by omega)) q2)
    · have q1 := hV.at_ (show k ≤ M - 1 - s by omega) (show M - 1 - s < V.length by omega)
      have q2 := hU.at_ hj hjl
      rcases h3 with h3 | h3
      · omega
      · exact leK_trans _ _ _ q1 (leK_trans _ _ _ (leK_iff.2 (Or.inl h3)) q2)
    · exact hV.at_ (by omega) hjl
/-- The insertion of the next number. -/
theorem srt_snoc {X : List Nat} (hX : X.Pairwise (· < ·)) {k i : Nat} (hk : k < X.length) (hi : i ≤ k)
    (h1 : i = 0 ∨ ¬ K (X.getD k 0) < K ((srt K (X.take k)).getD (i - 1) 0)) (h2 : i = k ∨ K (X.getD k 0) < K ((srt K (X.take k)).getD i 0)) :
    (srt K (X.take k)).take i ++ X.getD k 0 :: (srt K (X.take k)).drop i = srt K (X.take (k + 1)) := by
  have hl : (srt K (X.take k)).length = k := by rw [srt_length, List.length_take]; omega
  have hg : X.getD k 0 = X[k] := by rw [List.getD_eq_getElem?_getD, List.getElem?_eq_getElem hk]; rfl
  rw [ins_right (srt_sorted _) (fun x hx _ => ?_) (by omega) h1 (by rw [hl]; exact h2), srt_left, List.take_succ_eq_append_getElem hk, hg]
  rw [srt_mem] at hx
  obtain ⟨j, hj, hjl, rfl⟩ := mem_take hx
  have := List.pairwise_iff_getElem.1 hX j k hjl hk hj
  rw [hg, List.getD_eq_getElem?_getD, List.getElem?_eq_getElem hjl]
  exact Nat.le_of_lt this
theorem cross_of_lt {X Y : List Nat} (h : (X ++ Y).Pairwise (· < ·)) : Cross K X Y := fun x hx y hy _ => Nat.le_of_lt ((List.pairwise_append.1 h).2.2 x hx y hy)
theorem Cross.srt {X Y : List Nat} (h : Cross K X Y) : Cross K (srt K X) (srt K Y) := fun x hx y hy => h x (srt_mem.1 hx) y (srt_mem.1 hy)
end
end Go.Proofs.Ytenbbkmbnpdfaaa
