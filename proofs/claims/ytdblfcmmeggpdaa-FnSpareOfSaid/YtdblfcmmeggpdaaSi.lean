/- The law FnSpareOf: draw and walk. -/
import Derived.Test.YtdblfcmmeggpdaaSh
import Derived.ScratchShow
namespace Go.Proofs.Ytdblfcmmeggpdaa
open Go.RowKit
theorem Reach.tail {b : Int} {xs : List Int} {n m : Int} (h : Reach b xs n m) : n = m ∨ ∃ (j : Nat) (hj : j < xs.length), m = b + j ∧ Reach b xs n xs[j] := by
  induction h with
  | here n => exact .inl rfl
  | step k hk he hf _ ih =>
    rcases ih with h1 | ⟨j, hj, h1, h2⟩
    · exact .inr ⟨k, hk, h1.symm, by rw [he]; exact .here _⟩
    · exact .inr ⟨j, hj, h1, .step k hk he hf h2⟩
theorem Reach.inj {b e : Int} {xs : List Int} (hok : spOk b e xs) : ∀ (s : Nat) {n n' m : Int}, m.toNat ≤ s → n < b → n' < b → Reach b xs n m → Reach b xs n' m → n = n' := by
  intro s
  induction s with
  | zero =>
    intro n n' m hs hn hn' h h'
    have hb := hok.1
    rcases h.tail with h1 | ⟨j, hj, h1, _⟩
    · rcases h'.tail with h2 | ⟨j, hj, h2, _⟩
      · omega
      · omega
    · omega
  | succ s ih =>
    intro n n' m hs hn hn' h h'
    rcases h.tail with h1 | ⟨j, hj, h1, h3⟩
    · rcases h'.tail with h2 | ⟨j, hj, h2, _⟩
      · omega
      · omega
    · rcases h'.tail with h2 | ⟨j', hj', h2, h4⟩
      · omega
      · obtain rfl : j = j' := by omega
        have hx := hok.2.2.2.2.2 j hj
        exact ih (by have := hok.1; omega) hn hn' h3 h4
set_option maxHeartbeats 1000000 in
theorem hasInt_any (F : Nat → Prop) (A : Option Addr) (c : Nat) (xs : List Int) (n : Int) (w : World) (h : Rd F w A (icells xs)) (hl : xs.length ≤ 9223372036854775807) :
    Calls Try.prog 39 #[.slice A xs.length c, .int .i64 n] w (ConP w xs n) := by
  go_enter Try.func39, Try.ntmps39
  go_wp2
  go_loop [5] (fun i => ∃ k : Nat, k ≤ xs.length ∧ i = .int .i64 k ∧ Hid (n ∉ xs.take k)) (fun i => xs.length - (intOf i).toNat)
  case atStart => exact ⟨0, Nat.zero_le _, rfl, Lib.hid (by simp)⟩
  case round =>
    obtain ⟨k, hk, rfl, hn⟩ := hrel
    by_cases hlt : k < xs.length
    · obtain ⟨ad, rfl, hf, hbl, hc⟩ := ints_at h hlt
      by_cases he : n = xs[k]
      · have he' : (xs[k] == n) = true := beq_iff_eq.2 he.symm
        have HE := Lib.hid he
        clear he
        go_wp2
        go_ret
        exact ⟨true, rfl, by simp [HE.out], rfl⟩
      · have he' : (xs[k] == n) = false := beq_eq_false_iff_ne.2 (fun hh => he hh.symm)
        have HN := Lib.hid (not_take_succ hlt hn.out he)
        clear he
        go_wp2
        go_round
        case rel => exact ⟨k + 1, by omega, by go_num, HN⟩
        case measure => simp [intOf]; omega
    · go_wp2
      go_ret
      have hn' : n ∉ xs := by have := hn.out; rwa [List.take_of_length_le (by omega)] at this
      exact ⟨false, rfl, by simp [hn'], rfl⟩
def soPost (g S : Nat) (b e : Int) (V : Value) (i : Nat) : Value → World → Prop :=
  match i with
  | 0 => fun v _ => v = .agg #[.int .i64 b, .int .i64 e, V]
  | 1 | 7 => isPtr g
  | 2 => fun v _ => v = .pointer (some ⟨S, 0, none⟩)
  | 3 => fun v _ => v = .int .i64 b
  | 4 => fun v _ => v = .int .i64 (max 1 b)
  | 5 => fun v _ => v = .int .i64 (max 1 b + 1)
  | 6 => isNat 20
  | 8 => isNat 14
  | 11 => fun _ _ => True
  | _ => isInt
theorem soPost_stab {g S : Nat} {b e : Int} {V : Value} {i : Nat} {v : Value} {w1 w2 : World} (h : soPost g S b e V i v w1) : soPost g S b e V i v w2 := by
  unfold soPost at *
  split at h <;> exact h
def SoDraw (w : World) (e' : Ending) (w' : World) : Prop := ∃ v n, e' = .returned (.tuple #[v, .int .i64 n]) ∧ SpV w.heap.size w' v ∧ Chg NoB w w'
set_option maxRecDepth 100000 in
set_option maxHeartbeats 4000000 in
theorem DrawSpareOf_any (A : Option Addr) (c : Nat) (bs : List Nat) (w : World) (h : Rd (fun i => i < w.heap.size) w A (bs.map fun (b : Nat) => Value.int .u8 (b : Int))) (hx : ∀ b ∈ bs, b < 256) (hc : bs.length ≤ c) :
    Calls Try.prog 38 #[.slice A bs.length c] w (SoDraw w) := by
  have h0 := (h.new ((Chg.refl NoB w).alloc (.cells #[.int .i64 0, .int .i64 0, .slice none 0 0] 42))).mono (G := fun i => i < (w.alloc (.cells #[.int .i64 0, .int .i64 0, .slice none 0 0] 42)).heap.size) (fun i hi _ => hi)
  have HB0 := Lib.hid (Blk.new w 42 #[.int .i64 0, .int .i64 0, .slice none 0 0])
  have HC0 := Lib.hid ((Chg.refl NoB w).alloc (.cells #[.int .i64 0, .int .i64 0, .slice none 0 0] 42))
  go_enter Try.func38, Try.ntmps38
  go_wp2_with fail
  refine (l20Open_any A c bs _ h0 hx hc).mono ?_
  rintro e w1 ⟨g, rfl, hg, hc1, hr1⟩
  have Hg := Lib.hid (show g = w.heap.size + 1 by rw [hg, World.size_alloc])
  have hg1l := hr1.lt
  clear hg
  go_wp2_with fail
  refine (l20Spares_any g _ 9 _ hr1 (by omega) (by omega) (by omega)).mono ?_
  rintro e w2 ⟨v, rfl, ⟨b, e, A', c', xs, rfl, hrd, hle, hcm, hx20, hb0, hb13⟩, hc2, hr2⟩
  have hgl := hr2.lt
  have hb2 := ((HB0.out.chg hc1 (fun x => x)).chg hc2 (by have := Hg.out; omega)).chg ((Chg.refl NoB w2).alloc (.cells #[.int .i64 b, .int .i64 e, .slice A' xs.length c'] 42)) (fun x => x)
  have HC2 := Lib.hid (((HC0.out.trans hc1).own hc2 (by have := Hg.out; omega)).alloc (.cells #[.int .i64 b, .int .i64 e, .slice A' xs.length c'] 42))
  have HRD := Lib.hid (hrd.lt.new ((Chg.refl NoB w2).alloc (.cells #[.int .i64 b, .int .i64 e, .slice A' xs.length c'] 42)))
  have hS := Blk.new w2 42 #[.int .i64 b, .int .i64 e, .slice A' xs.length c']
  have hr3 := hr2.alloc (.cells #[.int .i64 b, .int .i64 e, .slice A' xs.length c'] 42)
  have hsz1 := hc1.size
  rw [World.size_alloc] at hsz1
  have hsz2 := hc2.size
  have hHg : w.heap.size ≠ g := by have := Hg.out; omega
  have hwg : w.heap.size < g := by have := Hg.out; omega
  clear hc1 hc2 hrd hr2
  go_wp2_with fail
  obtain ⟨S, hS0⟩ : ∃ S, w2.heap.size = S := ⟨_, rfl⟩
  rw [hS0] at hS ⊢
  have hSg : g < S := by omega
  obtain ⟨w3, hw3⟩ : ∃ w3, w2.alloc (.cells #[.int .i64 b, .int .i64 e, .slice A' xs.length c'] 42) = w3 := ⟨_, rfl⟩
  have hs3 : w3.heap.size = S + 1 := by rw [← hw3, World.size_alloc, hS0]
  rw [hw3] at hS hr3 hb2 HC2 HRD ⊢
  clear hw3
  have s0 : w3.cell? ⟨S, 0, none⟩ = some (.int .i64 b) := (hS.cell _).trans rfl
  have s1 : w3.cell? ⟨S, 1, none⟩ = some (.int .i64 e) := (hS.cell _).trans rfl
  have s2 : w3.cell? ⟨S, 2, none⟩ = some (.slice A' xs.length c') := (hS.cell _).trans rfl
  have HB2 := Lib.hid hb2
  clear hb2
  refine wp_region_rg (WInv := fun c m w4 => Rdr w4 g (0 + 200 + c) ∧ Chg (fun k => k = g ∨ k = w.heap.size) w3 w4 ∧ c ≤ 13 ∧ StI w.heap.size 42 #[.int .i64 0, .int .i64 0, .slice none 0 0] 11 0 m w4) (R := fun _ _ => True) (Post := soPost g S b e (.slice A' xs.length c')) (by kernel_rfl) (by kernel_rfl) ?_ (fun i v w1 w2 h _ => soPost_stab h) ⟨hr3.drew, (Chg.refl _ _).drew, by omega, .inl ⟨rfl, HB2.out.chg (Chg.refl NoB w3).drew (fun x => x)⟩⟩ ?_ ?_
  · rintro c c' m w ⟨h1, h2, _, h5⟩ h3 h4
    exact ⟨h1.more (by omega), h2, h4, h5⟩
  · refine ⟨?_, ?_, ?_, ?_, ?_, ?_, ?_, ?_, ?_, ?_, ?_, ?_, ?_, trivial⟩
    · rintro c m a w4 hc ⟨hrd, hch, hcc, hst⟩ hm hn
      have e1 : a.tmps[5]?.getD undef = .pointer (some ⟨S, 0, none⟩) := hn.1
      have x0 := hch.cell s0 (by simp; omega)
      have x1 := hch.cell s1 (by simp; omega)
      have x2 := hch.cell s2 (by simp; omega)
      exact rg_val (v := .agg #[.int .i64 b, .int .i64 e, .slice A' xs.length c']) (by simp [execOp, go_sem, e1, x0, x1, x2]) rfl ⟨hrd.more (by omega), hch, hc, hst.keep (by decide) hm (Chg.refl NoB _) (fun x => x)⟩ trivial rfl
    · rintro c m a w4 hc ⟨hrd, hch, hcc, hst⟩ hm hn
      have e1 : a.tmps[4]?.getD undef = .pointer (some ⟨g, 0, none⟩) := hn.1
      exact rg_val (v := .pointer (some ⟨g, 0, none⟩)) (by simp [execOp, go_sem, e1]) rfl ⟨hrd.more (by omega), hch, hc, hst.keep (by decide) hm (Chg.refl NoB _) (fun x => x)⟩ trivial rfl
    · rintro c m a w4 hc ⟨hrd, hch, hcc, hst⟩ hm hn
      have e1 : a.tmps[5]?.getD undef = .pointer (some ⟨S, 0, none⟩) := hn.1
      exact rg_val (v := .pointer (some ⟨S, 0, none⟩)) (by simp [execOp, go_sem, e1]) rfl ⟨hrd.more (by omega), hch, hc, hst.keep (by decide) hm (Chg.refl NoB _) (fun x => x)⟩ trivial rfl
    · rintro c m a w4 hc ⟨hrd, hch, hcc, hst⟩ hm hn
      obtain ⟨⟨_, e1, _, rfl⟩, -⟩ := hn
      have x0 := hch.cell s0 (by simp; omega)
      exact rg_val (v := .int .i64 b) (by simp [execOp, go_sem, e1, x0]) rfl ⟨hrd.more (by omega), hch, hc, hst.keep (by decide) hm (Chg.refl NoB _) (fun x => x)⟩ trivial rfl
    · rintro c m a w4 hc ⟨hrd, hch, hcc, hst⟩ hm hn
      obtain ⟨⟨_, e1, _, rfl⟩, -⟩ := hn
      exact rg_val (v := .int .i64 (max 1 b)) (by simp [go_sem, e1]; split <;> omega) rfl ⟨hrd.more (by omega), hch, hc, hst.keep (by decide) hm (Chg.refl NoB _) (fun x => x)⟩ trivial rfl
    · rintro c m a w4 hc ⟨hrd, hch, hcc, hst⟩ hm hn
      obtain ⟨⟨_, e1, _, rfl⟩, -⟩ := hn
      exact rg_val (v := .int .i64 (max 1 b + 1)) (by simp [execOp, go_sem, e1]; rw [IntKind.wrap_i64]; omega) rfl ⟨hrd.more (by omega), hch, hc, hst.keep (by decide) hm (Chg.refl NoB _) (fun x => x)⟩ trivial rfl
    · rintro c m a w4 hc ⟨hrd, hch, hcc, hst⟩ hm hn
      obtain ⟨⟨_, e1, _, rfl⟩, ⟨_, e2, _, rfl⟩, -⟩ := hn
      refine rg_call (f := 42) (args := #[.pointer (some ⟨g, 0, none⟩), .int .i64 (max 1 b + 1)]) (by simp [go_sem, e1, e2]) rfl ?_
      refine (pick_any g _ (max 1 b + 1) _ hrd (by omega) (by omega) (by omega)).mono ?_
      rintro e' w5 ⟨k, rfl, hk, hc5, hr5⟩
      exact ⟨_, rfl, ⟨hr5, hch.trans (hc5.mono fun k _ hk => .inl hk), hc, hst.keep (by decide) hm hc5 hHg⟩, trivial, k, rfl, by omega⟩
    · rintro c m a w4 hc ⟨hrd, hch, hcc, hst⟩ hm hn
      have e1 : a.tmps[4]?.getD undef = .pointer (some ⟨g, 0, none⟩) := hn.1
      exact rg_val (v := .pointer (some ⟨g, 0, none⟩)) (by simp [execOp, go_sem, e1]) rfl ⟨hrd.more (by omega), hch, hc, hst.keep (by decide) hm (Chg.refl NoB _) (fun x => x)⟩ trivial rfl
    · rintro c m a w4 hc ⟨hrd, hch, hcc, hst⟩ hm hn
      obtain ⟨⟨_, e1, _, rfl⟩, -⟩ := hn
      refine rg_call (f := 42) (args := #[.pointer (some ⟨g, 0, none⟩), .int .i64 (14)]) (by simp [go_sem, e1]) rfl ?_
      refine (pick_any g _ (14) _ hrd (by omega) (by omega) (by omega)).mono ?_
      rintro e' w5 ⟨k, rfl, hk, hc5, hr5⟩
      exact ⟨_, rfl, ⟨hr5, hch.trans (hc5.mono fun k _ hk => .inl hk), hc, hst.keep (by decide) hm hc5 hHg⟩, trivial, k, rfl, by omega⟩
    · rintro c m a w4 hc ⟨hrd, hch, hcc, hst⟩ hm hn
      obtain ⟨⟨_, e1, _, k, rfl, hk⟩, -⟩ := hn
      exact rg_val (v := .int .i64 ((k : Int) / 13)) (by simp [execOp, go_sem, e1]; rw [IntKind.wrap_i64]; omega) rfl ⟨hrd.more (by omega), hch, hc, hst.keep (by decide) hm (Chg.refl NoB _) (fun x => x)⟩ trivial ⟨_, rfl⟩
    · rintro c m a w4 hc ⟨hrd, hch, hcc, hst⟩ hm hn
      obtain ⟨⟨_, e1, _, k, rfl, hk⟩, ⟨_, e2, _, l, rfl⟩, -⟩ := hn
      exact rg_val (v := .int .i64 (IntKind.i64.wrap ((k : Int) - l))) (by simp [execOp, go_sem, e1, e2]) rfl ⟨hrd.more (by omega), hch, hc, hst.keep (by decide) hm (Chg.refl NoB _) (fun x => x)⟩ trivial ⟨_, rfl⟩
    · rintro c m a w4 hc ⟨hrd, hch, hcc, hst⟩ hm hn
      obtain ⟨e2, ⟨_, e1, hm0, rfl⟩, -⟩ := hn
      have e2 : a.tmps[2]?.getD undef = .pointer (some ⟨w.heap.size, 0, none⟩) := e2
      have hb := hst.ready hm
      have f0 := hb.frozen 0
      have f1 := hb.frozen 1
      have f2 := hb.frozen 2
      have x0 : w4.cell? ⟨w.heap.size, 0, none⟩ = some (.int .i64 0) := (hb.cell _).trans rfl
      have x1 : w4.cell? ⟨w.heap.size, 1, none⟩ = some (.int .i64 0) := (hb.cell _).trans rfl
      have x2 : w4.cell? ⟨w.heap.size, 2, none⟩ = some (.slice none 0 0) := (hb.cell _).trans rfl
      have hcs : Chg (· = w.heap.size) w4 (((w4.setCell ⟨w.heap.size, 0, none⟩ (.int .i64 b)).setCell ⟨w.heap.size, 1, none⟩ (.int .i64 e)).setCell ⟨w.heap.size, 2, none⟩ (.slice A' xs.length c')) := (((Chg.refl (· = w.heap.size) w4).setCell (p := ⟨w.heap.size, 0, none⟩) (.inl rfl) _).setCell (p := ⟨w.heap.size, 1, none⟩) (.inl rfl) _).setCell (p := ⟨w.heap.size, 2, none⟩) (.inl rfl) _
      exact rg_skip (w' := (((w4.setCell ⟨w.heap.size, 0, none⟩ (.int .i64 b)).setCell ⟨w.heap.size, 1, none⟩ (.int .i64 e)).setCell ⟨w.heap.size, 2, none⟩ (.slice A' xs.length c'))) (by simp [execOp, go_sem, e1, e2, x0, x1, x2, f0, f1, f2]) rfl ⟨(hrd.chgBox hcs hHg hb (by simp)).more (by omega), hch.trans (hcs.mono fun k _ hk => .inr hk), hc, StI.store (by decide) hm0 (((hb.set_ 0 _).set_ 1 _).set_ 2 _)⟩ trivial trivial
    · rintro c m a w4 hc ⟨hrd, hch, hcc, hst⟩ hm hn
      obtain ⟨⟨_, e1, _, x, rfl⟩, -⟩ := hn
      exact rg_val (v := .int .i64 x) (by simp [execOp, go_sem, e1]) rfl ⟨hrd.more (by omega), hch, hc, hst.keep (by decide) hm (Chg.refl NoB _) (fun x => x)⟩ trivial ⟨_, rfl⟩
  · rintro m w4 ⟨hrd, hch, -, hst⟩
    simp only [AllVals]
    rintro v0 m0 p0 v1 m1 p1 v2 m2 p2 v3 m3 p3 v4 m4 p4 v5 m5 p5 v6 m6 p6 v7 m7 p7 v8 m8 p8 v9 m9 p9 v10 m10 p10 v11 m11 p11 v12 m12 p12
    obtain ⟨x12, rfl⟩ := p12
    have hb := hst.done m11 m0
    rw [p0] at hb
    clear p0 p1 p2 p3 p4 p5 p6 p7 p8 p9 p10 p11 hst
    simp only [Act.put, List.setIfInBounds_toArray, List.set_cons_succ, List.set_cons_zero]
    have x0 : w4.cell? ⟨w.heap.size, 0, none⟩ = some (.int .i64 b) := (hb.cell _).trans rfl
    have x1 : w4.cell? ⟨w.heap.size, 1, none⟩ = some (.int .i64 e) := (hb.cell _).trans rfl
    have x2 : w4.cell? ⟨w.heap.size, 2, none⟩ = some (.slice A' xs.length c') := (hb.cell _).trans rfl
    go_wp2_with fail
    (try simp only [Exit.inBlock, Exit.then])
    refine bodyPost_ret (v := .tuple #[.agg #[.int .i64 b, .int .i64 e, .slice A' xs.length c'], .int .i64 x12]) (by simp [results, Try.results38, go_sem, *]) rfl ?_
    refine ⟨_, x12, rfl, ⟨b, e, A', c', xs, rfl, ?_, hle, hcm, hx20, hb0, hb13⟩, HC2.out.trans' hch (fun i hi => .inr (by omega))⟩
    exact (HRD.out.chg hch (fun i hi he => by have := Hg.out; omega)).mono (fun i _ hi => by omega)
set_option maxRecDepth 100000 in
set_option maxHeartbeats 4000000 in
theorem FnSpareOf_any (A : Option Addr) (c : Nat) (bs : List Nat) (w : World) (h : Rd (fun i => i < w.heap.size) w A (bs.map fun (b : Nat) => Value.int .u8 (b : Int))) (hx : ∀ b ∈ bs, b < 256) (hc : bs.length ≤ c) (_hm : c ≤ maxLen) :
    Calls Try.prog 14 #[.slice A bs.length c] w fun e w' => e = .returned (.bool true) ∧ Chg NoB w w' := by
  by_cases hl : 1048576 < bs.length
  · go_enter Try.func14, Try.ntmps14
    go_wp2
    go_ret
    exact ⟨rfl, Chg.refl _ _⟩
  have hl' : bs.length ≤ 1048576 := by omega
  go_enter Try.func14, Try.ntmps14
  go_wp2_with fail
  refine (DrawSpareOf_any A c bs w h hx hc).mono ?_
  rintro e' w1 ⟨v, n, rfl, ⟨b, e, A', c0, xs, rfl, hrd, hle, hcm, hx20, hb0, hb13⟩, hc1⟩
  unfold maxLen at hcm
  have HC1 := Lib.hid (hc1.alloc (.cells #[.int .i64 b, .int .i64 e, .slice A' xs.length c0] 42))
  have HRD1 := Lib.hid (hrd.lt.new ((Chg.refl NoB w1).alloc (.cells #[.int .i64 b, .int .i64 e, .slice A' xs.length c0] 42)))
  have HB1 := Lib.hid (Blk.new w1 42 #[.int .i64 b, .int .i64 e, .slice A' xs.length c0])
  clear hc1 hrd
  go_wp2_with fail
  refine (iSpareOf_any _ A' c0 b e xs n _ HRD1.out hle (by omega)).mono ?_
  rintro e' w2 ⟨r, rfl, hr, hrn, hc2⟩
  have HC2 := Lib.hid (HC1.out.trans hc2)
  have HRD2 := Lib.hid (HRD1.out.new hc2)
  have HB2 := Lib.hid (HB1.out.chg hc2 (fun x => x))
  have x0 : w2.cell? ⟨w1.heap.size, 0, none⟩ = some (.int .i64 b) := (HB2.out.cell _).trans rfl
  have x1 : w2.cell? ⟨w1.heap.size, 1, none⟩ = some (.int .i64 e) := (HB2.out.cell _).trans rfl
  have x2 : w2.cell? ⟨w1.heap.size, 2, none⟩ = some (.slice A' xs.length c0) := (HB2.out.cell _).trans rfl
  have HR := Lib.hid hr
  have HRN := Lib.hid hrn
  clear hc2 hr hrn
  go_wp2_with fail
  refine (sSpareOf_any _ A' c0 b e xs n _ HRD2.out hle (by omega)).mono ?_
  rintro e' w3 ⟨r', rfl, hr', hrn', hc3⟩
  obtain rfl : r = r' := by
    by_cases hok : spArgs b e xs n
    · exact (HR.out hok).1.det (HR.out hok).2 (hr' hok).1 (hr' hok).2
    · rw [HRN.out hok, hrn' hok]
  have hrr : (r != r) = false := by simp
  have HC3 := Lib.hid (HC2.out.trans hc3)
  have HRD3 := Lib.hid (HRD2.out.new hc3)
  have HB3 := Lib.hid (HB2.out.chg hc3 (fun x => x))
  clear x0 x1 x2 hr' hrn' hc3
  by_cases hneg : r < 0
  · obtain rfl : r = -1 := by
      by_cases hok : spArgs b e xs n
      · have h1 := (HR.out hok).1.bounds hok.2.1 (by have := hok.2.2; omega) (by omega)
        omega
      · exact HRN.out hok
    go_wp2_with fail
    refine (alive_any _).mono ?_
    rintro e' w' ⟨rfl, rfl⟩
    go_wp2
    go_ret
    exact ⟨rfl, HC3.out⟩
  have hok : spArgs b e xs n := by
    by_cases hok : spArgs b e xs n
    · exact hok
    · have := HRN.out hok; omega
  have HOK := Lib.hid hok
  have HRE := Lib.hid (HR.out hok)
  clear hok
  go_wp2
  go_loopw [6] (fun i wr => ∃ k : Nat, (k : Int) ≤ b ∧ i = .int .i64 k ∧ Chg NoB w3 wr) (fun i _ => b.toNat - (intOf i).toNat)
  case atStart => exact ⟨0, by omega, rfl, Chg.refl _ _⟩
  case round =>
    obtain ⟨k, hk, rfl, hch⟩ := hrel
    have HCH := Lib.hid hch
    have hb4 := HB3.out.chg hch (fun x => x)
    have x0 : wr.cell? ⟨w1.heap.size, 0, none⟩ = some (.int .i64 b) := (hb4.cell _).trans rfl
    have x1 : wr.cell? ⟨w1.heap.size, 1, none⟩ = some (.int .i64 e) := (hb4.cell _).trans rfl
    have x2 : wr.cell? ⟨w1.heap.size, 2, none⟩ = some (.slice A' xs.length c0) := (hb4.cell _).trans rfl
    have HRX := Lib.hid (HRD3.out.new hch)
    clear hch hb4
    by_cases hlt : (k : Int) < b
    · by_cases hkn : (k : Int) = n
      · have hkn' : ((k : Int) != n) = false := by rw [bne_eq_false_iff_eq]; exact hkn
        have HK := Lib.hid hkn
        clear hkn
        go_wp2
        go_roundw
        case rel => exact ⟨k + 1, by omega, by go_num, HCH.out⟩
        case measure => simp [intOf]; omega
      · have hkn' : ((k : Int) != n) = true := by rw [bne_iff_ne]; exact hkn
        have HK := Lib.hid hkn
        clear hkn
        go_wp2_with fail
        refine (iSpareOf_any _ A' c0 b e xs k _ HRX.out hle (by omega)).mono ?_
        rintro e' w5 ⟨r5, rfl, hr5, hrn5, hc5⟩
        have hne : (r5 == r) = false := by
          rw [beq_eq_false_iff_ne]
          intro he
          subst he
          have h5 := (hr5 ⟨HOK.out.1, by omega, hlt⟩).1
          exact HK.out (Reach.inj HOK.out.1 r5.toNat (Nat.le_refl _) hlt HOK.out.2.2 h5 HRE.out.1)
        have HCW := Lib.hid (HCH.out.trans hc5)
        clear hr5 hrn5 hc5
        go_wp2
        go_roundw
        case rel => exact ⟨k + 1, by omega, by go_num, HCW.out⟩
        case measure => simp [intOf]; omega
    · go_wp2_with fail
      refine (hasInt_any _ A' c0 xs r _ HRX.out (by omega)).mono ?_
      rintro e' w' ⟨f, rfl, hf, rfl⟩
      obtain rfl : f = false := by
        cases f
        · rfl
        · exact absurd (hf.1 rfl) HRE.out.2
      have hbd := HRE.out.1.bounds HOK.out.2.1 (by have := HOK.out.2.2; omega) (by omega)
      have hlt2 : r < b + (xs.length : Int) := hbd.2
      clear hf hbd
      go_wp2
      go_ret
      exact ⟨rfl, HC3.out.trans HCH.out⟩
end Go.Proofs.Ytdblfcmmeggpdaa
