/- Draws of links, opened; sameLinks, hasInt, sameInts. -/
import Derived.Test.YtgfhplejdpjgoaaKh
import Derived.Test.YtgfhplejdpjgoaaKc
import Derived.Test.YtgfhplejdpjgoaaKe
namespace Go.Proofs.Ytgfhplejdpjgoaa
open Go.RowKit

def LDraw (w : World) (e : Ending) (w' : World) : Prop :=
  ∃ A c xs, e = .returned (.slice A xs.length c) ∧ Rd (fun i => w.heap.size ≤ i) w' A (lcells xs) ∧ xs.length ≤ c ∧ xs.length ≤ 8 ∧ Chg NoB w w'
theorem LDraw.of {w w1 w' : World} {g N : Nat} {e : Ending} (hg : g = w.heap.size) (hc : Chg NoB w w1) (h : LDrawn g N w1 e w') : LDraw w e w' := by
  obtain ⟨A, c, xs, rfl, hr, h1, h2, h3, _⟩ := h
  exact ⟨A, c, xs, rfl, hr.mono fun _ _ hi => Nat.le_trans hc.size hi, h1, h2, hc.own h3 (Nat.le_of_eq hg.symm)⟩

theorem DrawLinksValid_any (A : Option Addr) (c : Nat) (bs : List Nat) (w : World) (h : Rd (fun i => i < w.heap.size) w A (bs.map fun (b : Nat) => Value.int .u8 (b : Int))) (hx : ∀ b ∈ bs, b < 256) (hc : bs.length ≤ c) :
    Calls Try.prog 29 #[.slice A bs.length c] w (LDraw w) := by
  go_enter Try.func29, Try.ntmps29
  go_wp2_with fail
  refine (l20Open_any A c bs w h hx hc).mono ?_
  rintro e w1 ⟨g, rfl, hg, hc1, hr1⟩
  have Hg := Lib.hid hg
  clear hg
  go_wp2_with fail
  refine (l20Links_any g 0 2 _ hr1 (by omega) (by omega) (by omega)).mono ?_
  intro e w2 hd
  have hl := LDraw.of Hg.out hc1 hd
  obtain ⟨A', c', xs, rfl, hl⟩ := hl
  clear hd
  go_wp2_with fail
  go_ret
  exact ⟨A', c', xs, rfl, hl⟩
theorem DrawCloseAll_any (A : Option Addr) (c : Nat) (bs : List Nat) (w : World) (h : Rd (fun i => i < w.heap.size) w A (bs.map fun (b : Nat) => Value.int .u8 (b : Int))) (hx : ∀ b ∈ bs, b < 256) (hc : bs.length ≤ c) :
    Calls Try.prog 35 #[.slice A bs.length c] w (LDraw w) := by
  go_enter Try.func35, Try.ntmps35
  go_wp2_with fail
  refine (l20Open_any A c bs w h hx hc).mono ?_
  rintro e w1 ⟨g, rfl, hg, hc1, hr1⟩
  have Hg := Lib.hid hg
  clear hg
  go_wp2_with fail
  refine (l20Links_any g 0 9 _ hr1 (by omega) (by omega) (by omega)).mono ?_
  intro e w2 hd
  have hl := LDraw.of Hg.out hc1 hd
  obtain ⟨A', c', xs, rfl, hl⟩ := hl
  clear hd
  go_wp2_with fail
  go_ret
  exact ⟨A', c', xs, rfl, hl⟩
theorem DrawOrphans_any (A : Option Addr) (c : Nat) (bs : List Nat) (w : World) (h : Rd (fun i => i < w.heap.size) w A (bs.map fun (b : Nat) => Value.int .u8 (b : Int))) (hx : ∀ b ∈ bs, b < 256) (hc : bs.length ≤ c) :
    Calls Try.prog 45 #[.slice A bs.length c] w (LDraw w) := by
  go_enter Try.func45, Try.ntmps45
  go_wp2_with fail
  refine (l20Open_any A c bs w h hx hc).mono ?_
  rintro e w1 ⟨g, rfl, hg, hc1, hr1⟩
  have Hg := Lib.hid hg
  clear hg
  go_wp2_with fail
  refine (l20Links_any g 0 9 _ hr1 (by omega) (by omega) (by omega)).mono ?_
  intro e w2 hd
  have hl := LDraw.of Hg.out hc1 hd
  obtain ⟨A', c', xs, rfl, hl⟩ := hl
  clear hd
  go_wp2_with fail
  go_ret
  exact ⟨A', c', xs, rfl, hl⟩
def LFDraw (w : World) (e : Ending) (w' : World) : Prop :=
  ∃ A c xs f n o, e = .returned (.tuple #[.slice A xs.length c, .int .i64 f, .int .i64 n, .int .i64 o]) ∧ Rd (fun i => w.heap.size ≤ i) w' A (lcells xs) ∧ xs.length ≤ c ∧ xs.length ≤ 8 ∧ Chg NoB w w'
theorem results_tmp4 {fn : Func} {t u v x : Tmp} (h : fn.results = #[.tmp t, .tmp u, .tmp v, .tmp x]) (tmps : Array Value) (P : Program) (w : World) :
    (results fn tmps).run P w = .ok (.tuple #[tmps.getD t undef, tmps.getD u undef, tmps.getD v undef, tmps.getD x undef]) w := by simp [results, h]
set_option maxRecDepth 100000 in
set_option maxHeartbeats 2000000 in
theorem DrawLinkFile_any (A : Option Addr) (c : Nat) (bs : List Nat) (w : World) (h : Rd (fun i => i < w.heap.size) w A (bs.map fun (b : Nat) => Value.int .u8 (b : Int))) (hx : ∀ b ∈ bs, b < 256) (hc : bs.length ≤ c) :
    Calls Try.prog 44 #[.slice A bs.length c] w (LFDraw w) := by
  go_enter Try.func44, Try.ntmps44
  go_wp2_with fail
  refine (l20Open_any A c bs w h hx hc).mono ?_
  rintro e w1 ⟨g, rfl, hg, hc1, hr1⟩
  have Hg := Lib.hid hg
  clear hg
  go_wp2_with fail
  refine (l20Links_any g 0 9 _ hr1 (by omega) (by omega) (by omega)).mono ?_
  rintro e w2 ⟨A', c', xs, rfl, hrd, hle, h8, hc2, hr2⟩
  have hrd2 := hrd.lt
  have hg1 := hr1.lt
  have HC2 := Lib.hid (hc1.own hc2 (Nat.le_of_eq Hg.out.symm))
  clear hrd hc2
  go_wp2_with fail
  refine (pick_any g _ 8 _ hr2 (by omega) (by omega) (by omega)).mono ?_
  rintro e w3 ⟨k3, rfl, hk3, hc3, hr3⟩
  have hrd3 := hrd2.chg hc3 (fun i hi he => by omega)
  have HC3 := Lib.hid (HC2.out.own hc3 (Nat.le_of_eq Hg.out.symm))
  clear hrd2 hc3
  go_wp2_with fail
  obtain ⟨hO1, hO2, hcb⟩ := lit2 w3 3 3 #[.int .i64 k3, .int .i64 8, .int .i64 (-1)] #[.int .i64 0, .int .i64 0, .int .i64 0, .int .i64 0, .int .i64 0, .int .i64 0, .int .i64 1, .int .i64 2]
  have hlt3 := hr3.lt
  refine (pick_any g _ 8 _ ((hr3.alloc _).alloc _) (by omega) (by omega) (by omega)).mono ?_
  rintro e w4 ⟨l, rfl, hl, hc4, hr4⟩
  obtain ⟨x, hx1, hx4⟩ := lit_nat (hO2.chg hc4 (by omega)) 3 l (by simp; omega) (by simp)
  obtain ⟨y, hy1⟩ := lit_cell (hO1.chg hc4 (by omega)) x (by simp; omega) (by simp)
  have hrd4 := (hrd3.chg hcb (fun _ _ x => x)).chg hc4 (fun i hi he => by omega)
  have HC4 := Lib.hid ((HC3.out.trans hcb).own hc4 (Nat.le_of_eq Hg.out.symm))
  clear hrd3 hc4 hcb hO1 hO2
  go_wp2_with fail
  refine (pick_any g _ 3 _ hr4 (by omega) (by omega) (by omega)).mono ?_
  rintro e w5 ⟨k5, rfl, hk5, hc5, hr5⟩
  have hrd5 := hrd4.chg hc5 (fun i hi he => by omega)
  have HC5 := Lib.hid (HC4.out.own hc5 (Nat.le_of_eq Hg.out.symm))
  clear hrd4 hc5
  go_wp2_with fail
  refine (pick_any g _ 14 _ hr5 (by omega) (by omega) (by omega)).mono ?_
  rintro e w6 ⟨k6, rfl, hk6, hc6, hr6⟩
  have hrd6 := hrd5.chg hc6 (fun i hi he => by omega)
  have HC6 := Lib.hid (HC5.out.own hc6 (Nat.le_of_eq Hg.out.symm))
  clear hrd5 hc6
  go_wp2_with fail
  refine (pick_any g _ 3 _ hr6 (by omega) (by omega) (by omega)).mono ?_
  rintro e w7 ⟨k7, rfl, hk7, hc7, hr7⟩
  have hrd7 := hrd6.chg hc7 (fun i hi he => by omega)
  have HC7 := Lib.hid (HC6.out.own hc7 (Nat.le_of_eq Hg.out.symm))
  clear hrd6 hc7
  go_wp2_with fail
  (try simp only [Exit.inBlock, Exit.then])
  refine bodyPost_ret (results_tmp4 rfl _ _ _) rfl ?_
  exact ⟨A', c', xs, _, _, _, rfl, hrd7.mono (fun i _ hi => by have := Hg.out; omega), hle, h8, HC7.out⟩
end Go.Proofs.Ytgfhplejdpjgoaa
