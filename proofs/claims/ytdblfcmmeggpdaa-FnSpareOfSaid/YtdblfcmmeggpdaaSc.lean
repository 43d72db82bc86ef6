/- Spares: SpareOf of the program and of the reference. -/
import Derived.Test.YtdblfcmmeggpdaaSa
namespace Go.Proofs.Ytdblfcmmeggpdaa
open Go.RowKit
/-- From block n one comes to m, each time to the spare of the first entry that names the block. -/
inductive Reach (b : Int) (xs : List Int) : Int → Int → Prop
  | here (n : Int) : Reach b xs n n
  | step {n m : Int} (k : Nat) (h : k < xs.length) (he : xs[k] = n) (hf : n ∉ xs.take k) (hr : Reach b xs (b + k) m) : Reach b xs n m
theorem first_eq {xs : List Int} {n : Int} {j k : Nat} (hj : j < xs.length) (hk : k < xs.length) (ej : xs[j] = n) (ek : xs[k] = n) (fj : n ∉ xs.take j) (fk : n ∉ xs.take k) : j = k := by
  rcases Nat.lt_trichotomy j k with h | h | h
  · exact absurd (List.mem_take_iff_getElem.2 ⟨j, by omega, ej⟩) fk
  · exact h
  · exact absurd (List.mem_take_iff_getElem.2 ⟨k, by omega, ek⟩) fj
theorem Reach.det {b : Int} {xs : List Int} {n m : Int} (h : Reach b xs n m) (hm : m ∉ xs) : ∀ {m' : Int}, Reach b xs n m' → m' ∉ xs → m = m' := by
  induction h with
  | here n =>
    intro m' h' _
    cases h' with
    | here => rfl
    | step k hk he _ _ => exact absurd (by rw [← he]; exact List.getElem_mem hk) hm
  | step k hk he hf hr ih =>
    intro m' h' hm'
    cases h' with
    | here => exact absurd (by rw [← he]; exact List.getElem_mem hk) hm'
    | step k' hk' he' hf' hr' =>
      obtain rfl := first_eq hk hk' he he' hf hf'
      exact ih hm hr' hm'
theorem Reach.snoc {b : Int} {xs : List Int} {n m : Int} (h : Reach b xs n m) (k : Nat) (hk : k < xs.length) (he : xs[k] = m) (hf : m ∉ xs.take k) : Reach b xs n (b + k) := by
  induction h with
  | here n => exact .step k hk he hf (.here _)
  | step k' hk' he' hf' _ ih => exact .step k' hk' he' hf' (ih he hf)
def spArgs (b e : Int) (xs : List Int) (n : Int) : Prop := spOk b e xs ∧ 0 ≤ n ∧ n < b
def SpareP (w : World) (b e : Int) (xs : List Int) (n : Int) (e' : Ending) (w' : World) : Prop :=
  ∃ m : Int, e' = .returned (.int .i64 m) ∧ (spArgs b e xs n → Reach b xs n m ∧ m ∉ xs) ∧ (¬ spArgs b e xs n → m = -1) ∧ Chg NoB w w'
theorem SpareP.bad {w w' : World} {b e n : Int} {xs : List Int} (h : ¬ spArgs b e xs n) (hc : Chg NoB w w') : SpareP w b e xs n (.returned (.int .i64 (-1))) w' :=
  ⟨-1, rfl, fun hh => absurd hh h, fun _ => rfl, hc⟩

set_option maxRecDepth 100000 in
set_option maxHeartbeats 2000000 in
theorem iSpareOf_any (F : Nat → Prop) (A : Option Addr) (c : Nat) (b e : Int) (xs : List Int) (n : Int) (w : World) (h : Rd F w A (icells xs)) (hc : xs.length ≤ c) (hm : c ≤ 9223372036854775807) :
    Calls Try.prog 37 #[.agg #[.int .i64 b, .int .i64 e, .slice A xs.length c], .int .i64 n] w (SpareP w b e xs n) := by
  have HC0 := Lib.hid ((Chg.refl NoB w).alloc (.cells #[.int .i64 b, .int .i64 e, .slice A xs.length c] 42))
  have HB0 := Lib.hid (Blk.new w 42 #[.int .i64 b, .int .i64 e, .slice A xs.length c])
  have HRD0 := Lib.hid (h.lt.chg HC0.out (fun _ _ x => x))
  have HH := Lib.hid h
  clear h
  go_enter Try.func37, Try.ntmps37
  go_wp2_with fail
  refine (iSparesValid_any _ A c b e xs _ HRD0.out hc hm).mono ?_
  rintro e' w1 ⟨r, rfl, hr, hc1⟩
  have hb1 := HB0.out.chg hc1 (fun x => x)
  have z0 : w1.cell? ⟨w.heap.size, 0, none⟩ = some (.int .i64 b) := by rw [hb1.cell]; rfl
  have z1 : w1.cell? ⟨w.heap.size, 1, none⟩ = some (.int .i64 e) := by rw [hb1.cell]; rfl
  have z2 : w1.cell? ⟨w.heap.size, 2, none⟩ = some (.slice A xs.length c) := by rw [hb1.cell]; rfl
  have HC1 := Lib.hid (HC0.out.trans hc1)
  have hrd1 := HH.out.lt.chg HC1.out (fun _ _ x => x)
  have HR := Lib.hid hr
  clear hb1 hc1 hr
  cases r
  · have HNO := Lib.hid (show ¬ spArgs b e xs n from fun hh => by have := HR.out.2 hh.1; cases this)
    go_wp2
    go_ret
    exact SpareP.bad HNO.out HC1.out
  have HOK := Lib.hid (HR.out.1 rfl)
  clear HR
  obtain ⟨o1, o2, o3, o4, o5, _⟩ := HOK.out
  have hlx : xs.length ≤ 12 := by omega
  by_cases h1 : n < 0
  · go_wp2
    go_ret
    exact SpareP.bad (fun hh => by have := hh.2.1; omega) HC1.out
  by_cases h2 : b ≤ n
  · go_wp2
    go_ret
    exact SpareP.bad (fun hh => by have := hh.2.2; omega) HC1.out
  go_wp2
  go_loop [1] (fun v => ∃ m : Int, v = .int .i64 m ∧ 0 ≤ m ∧ m ≤ b + xs.length ∧ Hid (Reach b xs n m)) (fun v => (b + xs.length - intOf v).toNat)
  case atStart => exact ⟨n, rfl, by omega, by omega, Lib.hid (.here n)⟩
  case round =>
    obtain ⟨m, rfl, hm0, hm1, hre⟩ := hrel
    go_wp2_with fail
    refine (index_any _ A c xs m _ hrd1 (by omega)).mono ?_
    rintro e' w' ⟨i, rfl, hi, rfl⟩
    rcases hi with ⟨rfl, hn⟩ | ⟨k, hk, rfl, hx, hf⟩
    · have HN := Lib.hid hn
      clear hn
      go_wp2
      go_ret
      exact ⟨m, rfl, fun _ => ⟨hre.out, HN.out⟩, fun hh => absurd ⟨HOK.out, by omega, by omega⟩ hh, HC1.out⟩
    · have HX := Lib.hid (show Reach b xs n (b + k) from hre.out.snoc k hk hx hf)
      have hlt : m < b + (k : Int) := by have := (HOK.out.2.2.2.2.2 k hk).2.1; omega
      have hk0 : (0 : Int) ≤ (k : Int) := Int.natCast_nonneg _
      clear hx hf
      go_wp2
      go_round
      case rel => exact ⟨b + k, by go_num, by omega, by omega, HX⟩
      case measure => simp [intOf]; omega
end Go.Proofs.Ytdblfcmmeggpdaa
