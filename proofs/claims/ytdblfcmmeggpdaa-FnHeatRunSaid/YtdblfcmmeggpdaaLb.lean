/- The law FnHeatRun: the walk. -/
import Derived.Test.YtdblfcmmeggpdaaHa
import Derived.Test.YtdblfcmmeggpdaaDr
namespace Go.Proofs.Ytdblfcmmeggpdaa
open Go.RowKit
theorem quiet_left {P : Program} {f : FuncId} {args : Array Value} {w : World} {n : Nat} {v : Value}
    (h : Calls P f args (w.drewN n) fun e w' => e = .returned v ∧ w.drewN n = w') : Calls P f args (w.drewN n) fun e w'' => e = .returned v ∧ ∃ m, w'' = w.drewN m :=
  h.mono fun _ _ ⟨he, hm⟩ => ⟨he, n, hm.symm⟩
theorem heatRun_last (zs : List Int) (z : Int) (h : 0 ≤ heatRun (zs ++ [z])) : heatStep (heatRun zs) z = heatRun (zs ++ [z]) := by
  have hl : ¬ 40 < (zs ++ [z]).length := fun hh => by rw [heatRun, if_pos hh] at h; omega
  rw [heatRun, heatRun, if_neg hl, if_neg (by simp at hl; omega), heatFold, heatFold, List.foldl_append]
  rfl
theorem heatRun_lo (xs : List Int) : -1 ≤ heatRun xs := by
  unfold heatRun
  split
  · omega
  · unfold heatFold
    rcases List.eq_nil_or_concat xs with h0 | ⟨l, a, h0⟩
    · rw [h0]; decide
    · rw [h0, List.concat_eq_append, List.foldl_append]; exact (heatStep_ge _ _).1

set_option maxHeartbeats 1000000 in
theorem FnHeatRun_any (A : Option Addr) (c : Nat) (bs : List Nat) (w : World) (h : Rd (fun i => i < w.heap.size) w A (bs.map fun (b : Nat) => Value.int .u8 (b : Int))) (hx : ∀ b ∈ bs, b < 256) (hc : bs.length ≤ c) (_hm : c ≤ maxLen) :
    Calls Try.prog 9 #[.slice A bs.length c] w fun e w' => e = .returned (.bool true) ∧ Chg NoB w w' := by
  by_cases hl : 1048576 < bs.length
  · go_enter Try.func9, Try.ntmps9
    go_wp2
    go_ret
    exact ⟨rfl, Chg.refl _ _⟩
  have hl' : bs.length ≤ 1048576 := by omega
  go_enter Try.func9, Try.ntmps9
  go_wp2_with fail
  refine (DrawHeatRun_any A c bs w h hx hc).mono ?_
  rintro e w1 ⟨A', c', ys, rfl, hc1, hr1, hle, h50⟩
  have HC1 := Lib.hid hc1
  clear hc1
  go_wp2_with fail
  refine (iHeatRun_any _ A' c' ys _ hr1).mono ?_
  rintro e w' ⟨rfl, rfl⟩
  go_wp2_with fail
  refine (sHeatRun_any _ A' c' ys _ hr1 (by omega)).mono ?_
  rintro e w' ⟨rfl, rfl⟩
  by_cases hneg : heatRun ys < 0
  · have e : heatRun ys = -1 := by have := heatRun_lo ys; omega
    rw [e]
    go_wp2_with fail
    refine (alive_any _).mono ?_
    rintro e w' ⟨rfl, rfl⟩
    go_wp2
    go_ret
    exact ⟨rfl, HC1.out⟩
  rcases List.eq_nil_or_concat ys with h0 | ⟨zs, z, h0⟩
  · subst h0
    have e : heatRun [] = 0 := by decide
    rw [e]
    go_wp2_with fail
    refine (alive_any _).mono ?_
    rintro e w' ⟨rfl, rfl⟩
    go_wp2
    go_ret
    exact ⟨rfl, HC1.out⟩
  · rw [List.concat_eq_append] at h0
    subst h0
    have hn0 : 0 ≤ heatRun (zs ++ [z]) := by omega
    have hlen : (zs ++ [z]).length = zs.length + 1 := by simp
    have hne : (((zs ++ [z]).length : Int) == 0) = false := beq_eq_false_iff_ne.2 (by omega)
    have HL := Lib.hid (heatRun_last zs z hn0)
    obtain ⟨ad, rfl, hf, hbl, hcell⟩ := ints_at hr1 (k := zs.length) (by omega)
    have hrz : Rd (fun i => w.heap.size ≤ i) w1 (some ad) (zs.map (Value.int .i64)) := fun k v hk => hr1 k v (by
      rw [icells, List.map_append, List.getElem?_append_left]
      · exact hk
      · exact (List.getElem?_eq_some_iff.1 hk).1)
    have hz : (zs ++ [z])[zs.length] = z := by simp
    rw [hz] at hcell
    rw [hlen] at hne hle h50 ⊢
    generalize heatRun (zs ++ [z]) = R at *
    have HR1 := Lib.hid hrz
    clear hlen hz hrz hr1
    have hne2 : (((zs.length : Int) + 1) == 0) = false := beq_eq_false_iff_ne.2 (by omega)
    have hne3 : ¬ ((zs.length : Int) + 1 = 0) := by omega
    have hm : zs.length ≤ c' := by omega
    have hneg' : ¬ R < 0 := hneg
    have hm0 : (0 : Int) ≤ (zs.length : Int) := by omega
    have hm1 : (zs.length : Int) < (zs.length : Int) + 1 := by omega
    go_wp2
    go_quiet ((first | (go_at_call 23; exact quiet_left (iHeatRun_any _ _ _ zs _ HR1.out)) | (go_at_call 16; exact quiet_left (iHeatStep_any _ _ _))))
    go_wp2
    go_ret
    exact ⟨ret_bool (by rw [HL.out]; simp), HC1.out.drewN _⟩
end Go.Proofs.Ytdblfcmmeggpdaa
