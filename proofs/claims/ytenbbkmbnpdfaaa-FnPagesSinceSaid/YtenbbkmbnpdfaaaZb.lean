/- The insertion sort of a row of page numbers. -/
import Derived.Test.YtenbbkmbnpdfaaaZa
import Derived.Test.YtenbbkmbnpdfaaaRo
import Derived.Test.YtenbbkmbnpdfaaaRh
import Derived.BigRegion
namespace Go.Proofs.Ytenbbkmbnpdfaaa
open Go.RowKit
def rowc (L : List Nat) : List Value := L.map fun (n : Nat) => .int .i64 (n : Int)
theorem rowc_length (L : List Nat) : (rowc L).length = L.length := by simp [rowc]
theorem rowc_append (A B : List Nat) : rowc (A ++ B) = rowc A ++ rowc B := by simp [rowc]
theorem rowc_cons (x : Nat) (B : List Nat) : rowc (x :: B) = .int .i64 (x : Int) :: rowc B := rfl
/-- The comparison of two stamps. -/
def cmp3 (a b : Int) : Int := if a < b then -1 else if b < a then 1 else 0
theorem cmp3_lt {a b : Int} : cmp3 a b < 0 ↔ a < b := by unfold cmp3; split <;> (try split) <;> omega
/-- What is asked of the comparison: it compares by K, and turns nothing old. -/
def CmpP (w : World) (g : Nat) (cb : Value) (K : Nat → Int) (M : Nat) : Prop := ∀ W, Chg (· = g) w W → ∀ x y : Nat, x < M → y < M →
  Calls Try.prog 79 #[.int .i64 x, .int .i64 y, cb] W fun e W' => e = .returned (.int .i64 (cmp3 (K x) (K y))) ∧ Chg NoB W W'
theorem CmpP.later {w w' : World} {g : Nat} {cb : Value} {K : Nat → Int} {M : Nat} (h : CmpP w g cb K M) (hc : Chg (· = g) w w') : CmpP w' g cb K M := fun W hW => h W (hc.trans hW)
abbrev RowB (w : World) (g : Nat) (rest : List Value) (L : List Nat) : Prop := Blk w g 3 (rowc L ++ rest).toArray
def RowP (w : World) (g : Nat) (rest : List Value) (L : List Nat) (e : Ending) (w' : World) : Prop := e = .returned (.tuple #[]) ∧ Chg (· = g) w w' ∧ RowB w' g rest L
section
variable {w : World} {g : Nat} {rest : List Value}
theorem RowB.at_ {P Q : List Nat} {x k : Nat} (h : RowB w g rest (P ++ x :: Q)) (hk : P.length = k) : w.cell? ⟨g, k, none⟩ = some (.int .i64 (x : Int)) := by
  unfold RowB at h
  rw [rowc_append, rowc_cons, List.append_assoc, List.cons_append] at h
  exact h.room (by rw [rowc_length, hk])
theorem RowB.put {P Q : List Nat} {x k : Nat} (h : RowB w g rest (P ++ x :: Q)) (hk : P.length = k) (y : Nat) : RowB (w.setCell ⟨g, k, none⟩ (.int .i64 (y : Int))) g rest (P ++ y :: Q) := by
  unfold RowB at h ⊢
  rw [rowc_append, rowc_cons, List.append_assoc, List.cons_append] at h ⊢
  exact h.fill1 (by rw [rowc_length, hk]) _
theorem RowB.fz {L : List Nat} (h : RowB w g rest L) (k : Nat) : w.frozen? ⟨g, k, none⟩ = false := Blk.frozen h k
/-- Two neighbours change places. -/
theorem RowB.swap {P Q : List Nat} {x y k : Nat} (h : RowB w g rest (P ++ x :: y :: Q)) (hk : P.length = k) :
    RowB ((w.setCell ⟨g, k + 1, none⟩ (.int .i64 (x : Int))).setCell ⟨g, k, none⟩ (.int .i64 (y : Int))) g rest (P ++ y :: x :: Q) := by
  have h1 : RowB w g rest ((P ++ [x]) ++ y :: Q) := by simpa using h
  have h2 := h1.put (k := k + 1) (by simp [hk]) x
  have h3 : RowB (w.setCell ⟨g, k + 1, none⟩ (.int .i64 (x : Int))) g rest (P ++ x :: (x :: Q)) := by simpa using h2
  exact h3.put hk y
end
theorem getD_split {S : List Nat} {p : Nat} (h : p < S.length) : S = S.take p ++ S.getD p 0 :: S.drop (p + 1) := by
  have e : S.getD p 0 = S[p] := by rw [List.getD_eq_getElem?_getD, List.getElem?_eq_getElem h]; rfl
  rw [e, ← List.drop_eq_getElem_cons h, List.take_append_drop]
/-- The number x stands at place p of what is sorted so far. -/
def insRow (P S : List Nat) (x p : Nat) (Y : List Nat) : List Nat := P ++ (S.take p ++ x :: (S.drop p ++ Y))
theorem insRow_step {P S Y : List Nat} {x p : Nat} (h : p < S.length) : insRow P S x (p + 1) Y = (P ++ S.take p) ++ S.getD p 0 :: x :: (S.drop (p + 1) ++ Y) ∧ insRow P S x p Y = (P ++ S.take p) ++ x :: S.getD p 0 :: (S.drop (p + 1) ++ Y) := by
  have e : S.getD p 0 = S[p] := by rw [List.getD_eq_getElem?_getD, List.getElem?_eq_getElem h]; rfl
  unfold insRow
  constructor
  · rw [List.take_succ_eq_append_getElem h, e]; simp only [List.append_assoc, List.cons_append, List.nil_append]
  · rw [List.drop_eq_getElem_cons h, e]; simp only [List.append_assoc, List.cons_append]
set_option maxRecDepth 100000 in
set_option maxHeartbeats 4000000 in
theorem insSort_any (w : World) (g c : Nat) (cb : Value) (K : Nat → Int) (M : Nat) (P X Q : List Nat) (rest : List Value) (lo hi n : Nat) (ha : P.length = lo) (hb : lo + X.length = hi) (hn : hi + Q.length = n) (hn' : n ≤ 1000)
    (hB : RowB w g rest (P ++ (X ++ Q))) (hM : ∀ x ∈ X, x < M) (hX : X.Pairwise (· < ·)) (hC : CmpP w g cb K M) :
    Calls Try.prog 105 #[.slice (some ⟨g, 0, none⟩) n c, .int .i64 (lo : Int), .int .i64 (hi : Int), .func (.func 79) #[] #[cb]] w (RowP w g rest (P ++ (srt K X ++ Q))) := by
  have HB := Lib.hid hB
  have HM := Lib.hid hM
  have HX := Lib.hid hX
  have HC := Lib.hid hC
  have HA := Lib.hid ha
  have HBL := Lib.hid hb
  have HN := Lib.hid hn
  clear hB hM hX hC ha hb hn
  have hab : lo ≤ hi := by have := HBL.out; omega
  have hbn : hi ≤ n := by have := HN.out; omega
  go_enter Try.func105, Try.ntmps105
  go_wp2_with fail
  go_loopw [8] (fun vi wr => ∃ k i : Nat, vi = .int .i64 (i : Int) ∧ 1 ≤ k ∧ i ≤ n + 1 ∧ Hid (i = lo + k) ∧ (k ≤ X.length ∨ k = 1) ∧ Chg (· = g) w wr ∧ RowB wr g rest (P ++ (srt K (X.take k) ++ (X.drop k ++ Q)))) (fun vi _ => n + 1 - (intOf vi).toNat)
  case atStart =>
    refine ⟨1, lo + 1, by go_num, Nat.le_refl _, by omega, Lib.hid rfl, .inr rfl, Chg.refl _ _, ?_⟩
    have e : srt K (X.take 1) = X.take 1 := srt_self (by cases X <;> simp [Srt])
    rw [e, ← List.append_assoc (X.take 1), List.take_append_drop]
    exact HB.out
  case round =>
    obtain ⟨k, i, rfl, hk1, hin, HI, hk, hch, hbl⟩ := hrel
    have HK := Lib.hid hk
    have HCH := Lib.hid hch
    have HBK := Lib.hid hbl
    clear hk hch hbl
    by_cases hlt : i < hi
    case neg =>
      have hlt' : ¬ ((i : Int) < (hi : Int)) := by omega
      go_wp2
      go_end0
      have e : X.length ≤ k := by have := HI.out; have := HBL.out; omega
      have h := HBK.out
      rw [List.take_of_length_le e, List.drop_of_length_le e, List.nil_append] at h
      exact ⟨rfl, HCH.out, h⟩
    have hlt' : ((i : Int) < (hi : Int)) := by omega
    have HKX := Lib.hid (show k < X.length by have := HI.out; have := HBL.out; omega)
    go_wp2_with fail
    obtain ⟨x, hx⟩ : ∃ x, X.getD k 0 = x := ⟨_, rfl⟩
    obtain ⟨S, hS⟩ : ∃ S, srt K (X.take k) = S := ⟨_, rfl⟩
    have HXE := Lib.hid hx
    have HSE := Lib.hid hS
    have HSL := Lib.hid (show S.length = k by rw [← hS, srt_length, List.length_take]; have := HKX.out; omega)
    have HXM := Lib.hid (show x < M by rw [← hx]; exact HM.out _ (getD_mem HKX.out))
    have HSM := Lib.hid (show ∀ y ∈ S, y < M from fun y hy => by rw [← hS, srt_mem] at hy; exact HM.out _ (List.mem_of_mem_take hy))
    have HST := Lib.hid (show RowB wr g rest (insRow P S x k (X.drop (k + 1) ++ Q)) by
      have h := HBK.out
      rw [hS] at h
      unfold insRow
      have e1 : S.take k = S := List.take_of_length_le (by have := HSL.out; omega)
      have e2 : S.drop k = [] := List.drop_of_length_le (by have := HSL.out; omega)
      have e3 : X.drop k = x :: X.drop (k + 1) := by rw [List.drop_eq_getElem_cons HKX.out, ← hx, List.getD_eq_getElem?_getD, List.getElem?_eq_getElem HKX.out]; rfl
      rw [e3] at h
      rw [e1, e2]
      simpa using h)
    have HNX := Lib.hid (show ∀ p, p ≤ k → (p = 0 ∨ ¬ K x < K (S.getD (p - 1) 0)) → (p = k ∨ K x < K (S.getD p 0)) → insRow P S x p (X.drop (k + 1) ++ Q) = P ++ (srt K (X.take (k + 1)) ++ (X.drop (k + 1) ++ Q)) from fun p hp h1 h2 => by
      have := srt_snoc (K := K) HX.out HKX.out hp (by rw [hx, hS]; exact h1) (by rw [hx, hS]; exact h2)
      rw [← this, hx, hS]
      unfold insRow
      simp)
    clear hx hS
    obtain ⟨w0, hw0⟩ : ∃ w0, wr = w0 := ⟨_, rfl⟩
    have HW0 := Lib.hid hw0
    rw [hw0] at HCH HST ⊢
    clear hw0 HBK
    go_loopw [9] (fun vj wr => ∃ p j : Nat, vj = .int .i64 (j : Int) ∧ j ≤ i ∧ lo ≤ j ∧ Hid (j = lo + p) ∧ Hid (p ≤ k) ∧ Chg (· = g) w wr ∧ RowB wr g rest (insRow P S x p (X.drop (k + 1) ++ Q)) ∧ Hid (p = k ∨ K x < K (S.getD p 0))) (fun vj _ => (intOf vj).toNat)
    case atStart => exact ⟨k, i, rfl, Nat.le_refl _, by have := HI.out; omega, HI, Lib.hid (Nat.le_refl _), HCH.out, HST.out, Lib.hid (.inl rfl)⟩
    case round =>
      obtain ⟨p, j, rfl, hji, haj, HJ, HP, hch, hbl, HQ⟩ := hrel
      by_cases hja : lo < j
      case neg =>
        have hja' : ¬ ((lo : Int) < (j : Int)) := by omega
        have hjn : j ≤ lo := by omega
        have HCH2 := Lib.hid hch
        have HBL2 := Lib.hid hbl
        clear hbl hja'
        obtain rfl : p = 0 := by have := HJ.out; omega
        clear hch
        go_wp2_with fail
        refine wp_region_ro (gl := [(3, some false)]) (WInv := fun _ _ w5 => Chg NoB wr w5) (R := Chg NoB) (Post := PV [some (.int .i64 (j : Int)), some (.int .i64 (lo : Int)), some (.bool false), some (.bool false), some (undef), some (undef), some (undef), some (undef), some (undef), some (undef), some (undef), some (undef), some (undef), some (undef), some (undef), some (undef), some (.bool false)]) (by kernel_rfl) (by kernel_rfl) (pv_guard (by intro p hp; simp only [List.mem_cons, List.not_mem_nil, or_false] at hp; rcases hp with rfl <;> rfl)) (fun _ _ _ _ h _ _ => h) (fun _ _ _ _ h _ => h) (Chg.refl _ _).drew ⟨?_, ?_, ?_, ?_, ?_, ?_, ?_, ?_, ?_, ?_, ?_, ?_, ?_, ?_, ?_, ?_, ?_, trivial⟩ ?_
        · rintro kc m a w5 hkc hch hm hn
          obtain ⟨e1, -⟩ := hn
          replace e1 : a.tmps[9]?.getD undef = .int .i64 (j : Int) := e1
          exact rg_val (v := .int .i64 (j : Int)) (by simp [execOp, go_sem, e1]) rfl hch (Chg.refl _ _) rfl
        · rintro kc m a w5 hkc hch hm hn
          obtain ⟨e1, -⟩ := hn
          replace e1 : a.tmps[1]?.getD undef = .int .i64 (lo : Int) := e1
          exact rg_val (v := .int .i64 (lo : Int)) (by simp [execOp, go_sem, e1]) rfl hch (Chg.refl _ _) rfl
        · rintro kc m a w5 hkc hch hm hn
          obtain ⟨⟨_, e1, _, rfl⟩, ⟨_, e2, _, rfl⟩, -⟩ := hn
          exact rg_val (v := .bool false) (by simp [execOp, go_sem, e1, e2, hjn]) rfl hch (Chg.refl _ _) rfl
        · rintro kc m a w5 hkc hch hm hn
          obtain ⟨⟨_, e1, _, rfl⟩, -⟩ := hn
          exact rg_val (v := .bool false) (by simp [execOp, go_sem, e1]) rfl hch (Chg.refl _ _) rfl
        · rintro kc m w5 hkc hch hm
          exact ⟨hch, Chg.refl _ _, rfl⟩
        · rintro kc m w5 hkc hch hm
          exact ⟨hch, Chg.refl _ _, rfl⟩
        · rintro kc m w5 hkc hch hm
          exact ⟨hch, Chg.refl _ _, rfl⟩
        · rintro kc m w5 hkc hch hm
          exact ⟨hch, Chg.refl _ _, rfl⟩
        · rintro kc m w5 hkc hch hm
          exact ⟨hch, Chg.refl _ _, rfl⟩
        · rintro kc m w5 hkc hch hm
          exact ⟨hch, Chg.refl _ _, rfl⟩
        · rintro kc m w5 hkc hch hm
          exact ⟨hch, Chg.refl _ _, rfl⟩
        · rintro kc m w5 hkc hch hm
          exact ⟨hch, Chg.refl _ _, rfl⟩
        · rintro kc m w5 hkc hch hm
          exact ⟨hch, Chg.refl _ _, rfl⟩
        · rintro kc m w5 hkc hch hm
          exact ⟨hch, Chg.refl _ _, rfl⟩
        · rintro kc m w5 hkc hch hm
          exact ⟨hch, Chg.refl _ _, rfl⟩
        · rintro kc m w5 hkc hch hm
          exact ⟨hch, Chg.refl _ _, rfl⟩
        · rintro kc m a w5 hkc hch hm hn
          obtain ⟨⟨_, e1, _, rfl⟩, ⟨_, e2, _, rfl⟩, -⟩ := hn
          exact rg_val (v := .bool false) (by simp [execOp, go_sem, e1, e2]) rfl hch (Chg.refl _ _) rfl
        rintro m w2 hc2
        simp only [AllVals]
        rintro v0 _ p0 v1 _ p1 v2 _ p2 v3 _ p3 v4 _ p4 v5 _ p5 v6 _ p6 v7 _ p7 v8 _ p8 v9 _ p9 v10 _ p10 v11 _ p11 v12 _ p12 v13 _ p13 v14 _ p14 v15 _ p15 v16 _ p16
        obtain rfl := p16
        clear p0 p1 p2 p3 p4 p5 p6 p7 p8 p9 p10 p11 p12 p13 p14 p15
        simp only [Act.put, List.setIfInBounds_toArray, List.set_cons_succ, List.set_cons_zero]
        have HC2 := Lib.hid hc2
        clear hc2
        have HBX := Lib.hid (HBL2.out.chg HC2.out (fun x => x))
        rw [HNX.out 0 (Nat.zero_le _) (.inl rfl) HQ.out] at HBX
        have HCX := Lib.hid (HCH2.out.trans (HC2.out.mono (fun _ _ x => x.elim)))
        clear HC2
        go_wp2
        go_roundw
        case rel => exact ⟨k + 1, i + 1, by go_num, by omega, by omega, Lib.hid (by have := HI.out; omega), .inl HKX.out, HCX.out, HBX.out⟩
        case measure => simp [intOf]; omega
      obtain ⟨q, rfl⟩ : ∃ q, p = q + 1 := ⟨p - 1, by have := HJ.out; omega⟩
      obtain ⟨jp, rfl⟩ : ∃ jp, j = jp + 1 := ⟨j - 1, by omega⟩
      have HJP := Lib.hid (show jp = lo + q by have := HJ.out; omega)
      have HQK := Lib.hid (show q < S.length by have := HP.out; have := HSL.out; omega)
      obtain ⟨y, hy⟩ : ∃ y, S.getD q 0 = y := ⟨_, rfl⟩
      have HYM := Lib.hid (show y < M by rw [← hy]; exact HSM.out _ (getD_mem HQK.out))
      rw [(insRow_step HQK.out).1, hy] at hbl
      have hpl : (P ++ S.take q).length = jp := by rw [List.length_append, List.length_take, HA.out, HJP.out]; have := HQK.out; omega
      have cp := hbl.at_ hpl
      have cj := RowB.at_ (P := P ++ S.take q ++ [y]) (k := jp + 1) (Q := S.drop (q + 1) ++ (X.drop (k + 1) ++ Q)) (x := x) (w := wr) (g := g) (rest := rest) (by simpa using hbl) (by rw [List.length_append, hpl]; rfl)
      have fp := hbl.fz jp
      have fj := hbl.fz (jp + 1)
      have HSW := Lib.hid (hbl.swap hpl)
      have HY := Lib.hid hy
      have HBL2 := Lib.hid hbl
      have HCC := Lib.hid (HC.out.later hch)
      have HCH2 := Lib.hid hch
      have hjz : (jp : Int) + 1 < (n : Int) := by omega
      have hjz1 : (jp : Int) < (n : Int) := by omega
      have hjz0 : (0 : Int) ≤ (jp : Int) := Int.natCast_nonneg _
      have haj' : (lo : Int) < (jp : Int) + 1 := by omega
      have hwp : IntKind.i64.wrap (jp : Int) = (jp : Int) := by rw [IntKind.wrap_i64]; omega
      have ej : ((jp : Int) + 1).toNat = jp + 1 := by omega
      clear hbl hy hpl
      by_cases hl : K x < K y
      case neg =>
        have hl0 : ¬ (cmp3 (K x) (K y) < 0) := fun h => hl (cmp3_lt.1 h)
        clear hch
        go_wp2_with fail
        refine wp_region_ro (gl := [(3, some true)]) (WInv := fun _ _ w5 => Chg NoB wr w5) (R := Chg NoB) (Post := PV [some (.int .i64 ((jp : Int) + 1)), some (.int .i64 (lo : Int)), some (.bool true), some (.bool true), some (.func (.func 79) #[] #[cb]), some (.slice (some ⟨g, 0, none⟩) n c), some (.int .i64 ((jp : Int) + 1)), some (.pointer (some ⟨g, jp + 1, none⟩)), some (.int .i64 (x : Int)), some (.slice (some ⟨g, 0, none⟩) n c), some (.int .i64 ((jp : Int) + 1)), some (.int .i64 (jp : Int)), some (.pointer (some ⟨g, jp, none⟩)), some (.int .i64 (y : Int)), some (.int .i64 (cmp3 (K x) (K y))), some (.bool false), some (.bool false)]) (by kernel_rfl) (by kernel_rfl) (pv_guard (by intro p hp; simp only [List.mem_cons, List.not_mem_nil, or_false] at hp; rcases hp with rfl <;> rfl)) (fun _ _ _ _ h _ _ => h) (fun _ _ _ _ h _ => h) (Chg.refl _ _).drew ⟨?_, ?_, ?_, ?_, ?_, ?_, ?_, ?_, ?_, ?_, ?_, ?_, ?_, ?_, ?_, ?_, ?_, trivial⟩ ?_
        · rintro kc m a w5 hkc hch hm hn
          obtain ⟨e1, -⟩ := hn
          replace e1 : a.tmps[9]?.getD undef = .int .i64 ((jp : Int) + 1) := e1
          exact rg_val (v := .int .i64 ((jp : Int) + 1)) (by simp [execOp, go_sem, e1]) rfl hch (Chg.refl _ _) rfl
        · rintro kc m a w5 hkc hch hm hn
          obtain ⟨e1, -⟩ := hn
          replace e1 : a.tmps[1]?.getD undef = .int .i64 (lo : Int) := e1
          exact rg_val (v := .int .i64 (lo : Int)) (by simp [execOp, go_sem, e1]) rfl hch (Chg.refl _ _) rfl
        · rintro kc m a w5 hkc hch hm hn
          obtain ⟨⟨_, e1, _, rfl⟩, ⟨_, e2, _, rfl⟩, -⟩ := hn
          exact rg_val (v := .bool true) (by simp [execOp, go_sem, e1, e2, haj']) rfl hch (Chg.refl _ _) rfl
        · rintro kc m a w5 hkc hch hm hn
          obtain ⟨⟨_, e1, _, rfl⟩, -⟩ := hn
          exact rg_val (v := .bool true) (by simp [execOp, go_sem, e1]) rfl hch (Chg.refl _ _) rfl
        · rintro kc m a w5 hkc hch hm hn
          obtain ⟨e1, -⟩ := hn
          replace e1 : a.tmps[3]?.getD undef = .func (.func 79) #[] #[cb] := e1
          exact rg_val (v := .func (.func 79) #[] #[cb]) (by simp [execOp, go_sem, e1]) rfl hch (Chg.refl _ _) rfl
        · rintro kc m a w5 hkc hch hm hn
          obtain ⟨e1, -⟩ := hn
          replace e1 : a.tmps[0]?.getD undef = .slice (some ⟨g, 0, none⟩) n c := e1
          exact rg_val (v := .slice (some ⟨g, 0, none⟩) n c) (by simp [execOp, go_sem, e1]) rfl hch (Chg.refl _ _) rfl
        · rintro kc m a w5 hkc hch hm hn
          obtain ⟨e1, -⟩ := hn
          replace e1 : a.tmps[9]?.getD undef = .int .i64 ((jp : Int) + 1) := e1
          exact rg_val (v := .int .i64 ((jp : Int) + 1)) (by simp [execOp, go_sem, e1]) rfl hch (Chg.refl _ _) rfl
        · rintro kc m a w5 hkc hch hm hn
          obtain ⟨⟨_, e1, _, rfl⟩, ⟨_, e2, _, rfl⟩, -⟩ := hn
          exact rg_val (v := .pointer (some ⟨g, jp + 1, none⟩)) (by simp [execOp, go_sem, e1, e2, ej]; exact fun hh => absurd hh (by omega)) rfl hch (Chg.refl _ _) rfl
        · rintro kc m a w5 hkc hch hm hn
          obtain ⟨⟨_, e1, _, rfl⟩, -⟩ := hn
          have c0 := Chg.cell hch cj (fun x => x)
          exact rg_val (v := .int .i64 (x : Int)) (by simp [execOp, go_sem, e1, c0]) rfl hch (Chg.refl _ _) rfl
        · rintro kc m a w5 hkc hch hm hn
          obtain ⟨e1, -⟩ := hn
          replace e1 : a.tmps[0]?.getD undef = .slice (some ⟨g, 0, none⟩) n c := e1
          exact rg_val (v := .slice (some ⟨g, 0, none⟩) n c) (by simp [execOp, go_sem, e1]) rfl hch (Chg.refl _ _) rfl
        · rintro kc m a w5 hkc hch hm hn
          obtain ⟨e1, -⟩ := hn
          replace e1 : a.tmps[9]?.getD undef = .int .i64 ((jp : Int) + 1) := e1
          exact rg_val (v := .int .i64 ((jp : Int) + 1)) (by simp [execOp, go_sem, e1]) rfl hch (Chg.refl _ _) rfl
        · rintro kc m a w5 hkc hch hm hn
          obtain ⟨⟨_, e1, _, rfl⟩, -⟩ := hn
          exact rg_val (v := .int .i64 (jp : Int)) (by simp [execOp, go_sem, e1, hwp]) rfl hch (Chg.refl _ _) rfl
        · rintro kc m a w5 hkc hch hm hn
          obtain ⟨⟨_, e1, _, rfl⟩, ⟨_, e2, _, rfl⟩, -⟩ := hn
          exact rg_val (v := .pointer (some ⟨g, jp, none⟩)) (by simp [execOp, go_sem, e1, e2]; exact fun hh => absurd hh (by omega)) rfl hch (Chg.refl _ _) rfl
        · rintro kc m a w5 hkc hch hm hn
          obtain ⟨⟨_, e1, _, rfl⟩, -⟩ := hn
          have c0 := Chg.cell hch cp (fun x => x)
          exact rg_val (v := .int .i64 (y : Int)) (by simp [execOp, go_sem, e1, c0]) rfl hch (Chg.refl _ _) rfl
        · rintro kc m a w5 hkc hch hm hn
          obtain ⟨⟨_, e1, _, rfl⟩, ⟨_, e2, _, rfl⟩, ⟨_, e3, _, rfl⟩, -⟩ := hn
          refine rg_call (f := 79) (args := #[.int .i64 (x : Int), .int .i64 (y : Int), cb]) (by simp [go_sem, e1, e2, e3]) rfl ?_
          refine (HCC.out _ (hch.mono (fun _ _ x => x.elim)) x y HXM.out HYM.out).mono ?_
          rintro e w6 ⟨rfl, hc6⟩
          exact ⟨_, rfl, hch.trans hc6, hc6, rfl⟩
        · rintro kc m a w5 hkc hch hm hn
          obtain ⟨⟨_, e1, _, rfl⟩, -⟩ := hn
          exact rg_val (v := .bool false) (by simp [execOp, go_sem, e1, hl0]) rfl hch (Chg.refl _ _) rfl
        · rintro kc m a w5 hkc hch hm hn
          obtain ⟨⟨_, e1, _, rfl⟩, ⟨_, e2, _, rfl⟩, -⟩ := hn
          exact rg_val (v := .bool false) (by simp [execOp, go_sem, e1, e2]) rfl hch (Chg.refl _ _) rfl
        rintro m w2 hc2
        simp only [AllVals]
        rintro v0 _ p0 v1 _ p1 v2 _ p2 v3 _ p3 v4 _ p4 v5 _ p5 v6 _ p6 v7 _ p7 v8 _ p8 v9 _ p9 v10 _ p10 v11 _ p11 v12 _ p12 v13 _ p13 v14 _ p14 v15 _ p15 v16 _ p16
        obtain rfl := p16
        clear p0 p1 p2 p3 p4 p5 p6 p7 p8 p9 p10 p11 p12 p13 p14 p15
        simp only [Act.put, List.setIfInBounds_toArray, List.set_cons_succ, List.set_cons_zero]
        have HC2 := Lib.hid hc2
        clear hc2
        have hbx := HBL2.out.chg (F := NoB) HC2.out (fun x => x)
        rw [← HY.out, ← (insRow_step (x := x) HQK.out).1, HNX.out (q + 1) HP.out (.inr (by rw [Nat.add_sub_cancel, HY.out]; exact hl)) HQ.out] at hbx
        have HBX := Lib.hid hbx
        have HCX := Lib.hid (HCH2.out.trans (HC2.out.mono (fun _ _ x => x.elim)))
        clear HC2 hbx ej hwp
        go_wp2
        go_roundw
        case rel => exact ⟨k + 1, i + 1, by go_num, by omega, by omega, Lib.hid (by have := HI.out; omega), .inl HKX.out, HCX.out, HBX.out⟩
        case measure => simp [intOf]; omega
      have hl0 : cmp3 (K x) (K y) < 0 := cmp3_lt.2 hl
      clear hch
      go_wp2_with fail
      refine wp_region_ro (gl := [(3, some true)]) (WInv := fun _ _ w5 => Chg NoB wr w5) (R := Chg NoB) (Post := PV [some (.int .i64 ((jp : Int) + 1)), some (.int .i64 (lo : Int)), some (.bool true), some (.bool true), some (.func (.func 79) #[] #[cb]), some (.slice (some ⟨g, 0, none⟩) n c), some (.int .i64 ((jp : Int) + 1)), some (.pointer (some ⟨g, jp + 1, none⟩)), some (.int .i64 (x : Int)), some (.slice (some ⟨g, 0, none⟩) n c), some (.int .i64 ((jp : Int) + 1)), some (.int .i64 (jp : Int)), some (.pointer (some ⟨g, jp, none⟩)), some (.int .i64 (y : Int)), some (.int .i64 (cmp3 (K x) (K y))), some (.bool true), some (.bool true)]) (by kernel_rfl) (by kernel_rfl) (pv_guard (by intro p hp; simp only [List.mem_cons, List.not_mem_nil, or_false] at hp; rcases hp with rfl <;> rfl)) (fun _ _ _ _ h _ _ => h) (fun _ _ _ _ h _ => h) (Chg.refl _ _).drew ⟨?_, ?_, ?_, ?_, ?_, ?_, ?_, ?_, ?_, ?_, ?_, ?_, ?_, ?_, ?_, ?_, ?_, trivial⟩ ?_
      · rintro kc m a w5 hkc hch hm hn
        obtain ⟨e1, -⟩ := hn
        replace e1 : a.tmps[9]?.getD undef = .int .i64 ((jp : Int) + 1) := e1
        exact rg_val (v := .int .i64 ((jp : Int) + 1)) (by simp [execOp, go_sem, e1]) rfl hch (Chg.refl _ _) rfl
      · rintro kc m a w5 hkc hch hm hn
        obtain ⟨e1, -⟩ := hn
        replace e1 : a.tmps[1]?.getD undef = .int .i64 (lo : Int) := e1
        exact rg_val (v := .int .i64 (lo : Int)) (by simp [execOp, go_sem, e1]) rfl hch (Chg.refl _ _) rfl
      · rintro kc m a w5 hkc hch hm hn
        obtain ⟨⟨_, e1, _, rfl⟩, ⟨_, e2, _, rfl⟩, -⟩ := hn
        exact rg_val (v := .bool true) (by simp [execOp, go_sem, e1, e2, haj']) rfl hch (Chg.refl _ _) rfl
      · rintro kc m a w5 hkc hch hm hn
        obtain ⟨⟨_, e1, _, rfl⟩, -⟩ := hn
        exact rg_val (v := .bool true) (by simp [execOp, go_sem, e1]) rfl hch (Chg.refl _ _) rfl
      · rintro kc m a w5 hkc hch hm hn
        obtain ⟨e1, -⟩ := hn
        replace e1 : a.tmps[3]?.getD undef = .func (.func 79) #[] #[cb] := e1
        exact rg_val (v := .func (.func 79) #[] #[cb]) (by simp [execOp, go_sem, e1]) rfl hch (Chg.refl _ _) rfl
      · rintro kc m a w5 hkc hch hm hn
        obtain ⟨e1, -⟩ := hn
        replace e1 : a.tmps[0]?.getD undef = .slice (some ⟨g, 0, none⟩) n c := e1
        exact rg_val (v := .slice (some ⟨g, 0, none⟩) n c) (by simp [execOp, go_sem, e1]) rfl hch (Chg.refl _ _) rfl
      · rintro kc m a w5 hkc hch hm hn
        obtain ⟨e1, -⟩ := hn
        replace e1 : a.tmps[9]?.getD undef = .int .i64 ((jp : Int) + 1) := e1
        exact rg_val (v := .int .i64 ((jp : Int) + 1)) (by simp [execOp, go_sem, e1]) rfl hch (Chg.refl _ _) rfl
      · rintro kc m a w5 hkc hch hm hn
        obtain ⟨⟨_, e1, _, rfl⟩, ⟨_, e2, _, rfl⟩, -⟩ := hn
        exact rg_val (v := .pointer (some ⟨g, jp + 1, none⟩)) (by simp [execOp, go_sem, e1, e2, ej]; exact fun hh => absurd hh (by omega)) rfl hch (Chg.refl _ _) rfl
      · rintro kc m a w5 hkc hch hm hn
        obtain ⟨⟨_, e1, _, rfl⟩, -⟩ := hn
        have c0 := Chg.cell hch cj (fun x => x)
        exact rg_val (v := .int .i64 (x : Int)) (by simp [execOp, go_sem, e1, c0]) rfl hch (Chg.refl _ _) rfl
      · rintro kc m a w5 hkc hch hm hn
        obtain ⟨e1, -⟩ := hn
        replace e1 : a.tmps[0]?.getD undef = .slice (some ⟨g, 0, none⟩) n c := e1
        exact rg_val (v := .slice (some ⟨g, 0, none⟩) n c) (by simp [execOp, go_sem, e1]) rfl hch (Chg.refl _ _) rfl
      · rintro kc m a w5 hkc hch hm hn
        obtain ⟨e1, -⟩ := hn
        replace e1 : a.tmps[9]?.getD undef = .int .i64 ((jp : Int) + 1) := e1
        exact rg_val (v := .int .i64 ((jp : Int) + 1)) (by simp [execOp, go_sem, e1]) rfl hch (Chg.refl _ _) rfl
      · rintro kc m a w5 hkc hch hm hn
        obtain ⟨⟨_, e1, _, rfl⟩, -⟩ := hn
        exact rg_val (v := .int .i64 (jp : Int)) (by simp [execOp, go_sem, e1, hwp]) rfl hch (Chg.refl _ _) rfl
      · rintro kc m a w5 hkc hch hm hn
        obtain ⟨⟨_, e1, _, rfl⟩, ⟨_, e2, _, rfl⟩, -⟩ := hn
        exact rg_val (v := .pointer (some ⟨g, jp, none⟩)) (by simp [execOp, go_sem, e1, e2]; exact fun hh => absurd hh (by omega)) rfl hch (Chg.refl _ _) rfl
      · rintro kc m a w5 hkc hch hm hn
        obtain ⟨⟨_, e1, _, rfl⟩, -⟩ := hn
        have c0 := Chg.cell hch cp (fun x => x)
        exact rg_val (v := .int .i64 (y : Int)) (by simp [execOp, go_sem, e1, c0]) rfl hch (Chg.refl _ _) rfl
      · rintro kc m a w5 hkc hch hm hn
        obtain ⟨⟨_, e1, _, rfl⟩, ⟨_, e2, _, rfl⟩, ⟨_, e3, _, rfl⟩, -⟩ := hn
        refine rg_call (f := 79) (args := #[.int .i64 (x : Int), .int .i64 (y : Int), cb]) (by simp [go_sem, e1, e2, e3]) rfl ?_
        refine (HCC.out _ (hch.mono (fun _ _ x => x.elim)) x y HXM.out HYM.out).mono ?_
        rintro e w6 ⟨rfl, hc6⟩
        exact ⟨_, rfl, hch.trans hc6, hc6, rfl⟩
      · rintro kc m a w5 hkc hch hm hn
        obtain ⟨⟨_, e1, _, rfl⟩, -⟩ := hn
        exact rg_val (v := .bool true) (by simp [execOp, go_sem, e1, hl0]) rfl hch (Chg.refl _ _) rfl
      · rintro kc m a w5 hkc hch hm hn
        obtain ⟨⟨_, e1, _, rfl⟩, ⟨_, e2, _, rfl⟩, -⟩ := hn
        exact rg_val (v := .bool true) (by simp [execOp, go_sem, e1, e2]) rfl hch (Chg.refl _ _) rfl
      rintro m w2 hc2
      simp only [AllVals]
      rintro v0 _ p0 v1 _ p1 v2 _ p2 v3 _ p3 v4 _ p4 v5 _ p5 v6 _ p6 v7 _ p7 v8 _ p8 v9 _ p9 v10 _ p10 v11 _ p11 v12 _ p12 v13 _ p13 v14 _ p14 v15 _ p15 v16 _ p16
      obtain rfl := p16
      clear p0 p1 p2 p3 p4 p5 p6 p7 p8 p9 p10 p11 p12 p13 p14 p15
      simp only [Act.put, List.setIfInBounds_toArray, List.set_cons_succ, List.set_cons_zero]
      have HC2 := Lib.hid hc2
      clear hc2
      have hbs := RowB.swap (HBL2.out.chg (F := NoB) HC2.out (fun x => x)) (P := P ++ S.take q) (k := jp) (by rw [List.length_append, List.length_take, HA.out, HJP.out]; have := HQK.out; omega)
      rw [← HY.out, ← (insRow_step (x := x) HQK.out).2] at hbs
      have HBS := Lib.hid (show RowB ((w2.setCell ⟨g, jp + 1, none⟩ (.int .i64 (y : Int))).setCell ⟨g, jp, none⟩ (.int .i64 (x : Int))) g rest _ from by rw [← HY.out]; exact hbs)
      have HCX := Lib.hid (HCH2.out.trans (HC2.out.mono (fun _ _ x => x.elim)))
      have cp2 := HC2.out.cell cp (fun x => x)
      have cj2 := HC2.out.cell cj (fun x => x)
      have fp2 := RowB.fz (HBL2.out.chg (F := NoB) HC2.out (fun x => x)) jp
      have fj2 := RowB.fz (HBL2.out.chg (F := NoB) HC2.out (fun x => x)) (jp + 1)
      clear HC2 hbs cp cj fp fj hl0 hwp
      have hsub : (jp : Int) + 1 - 1 = (jp : Int) := by omega
      go_wp2
      go_region
      go_wp2
      go_roundw
      case rel => exact ⟨q, jp, by go_num, by omega, by omega, HJP, Lib.hid (by have := HP.out; omega), ((HCX.out.setCell (p := ⟨g, jp + 1, none⟩) (.inl rfl) _).setCell (p := ⟨g, jp, none⟩) (.inl rfl) _).drew, Blk.chg HBS.out ((Chg.refl NoB _).drew) (fun x => x), Lib.hid (.inr (by rw [HY.out]; exact hl))⟩
      case measure => simp [intOf]
end Go.Proofs.Ytenbbkmbnpdfaaa
