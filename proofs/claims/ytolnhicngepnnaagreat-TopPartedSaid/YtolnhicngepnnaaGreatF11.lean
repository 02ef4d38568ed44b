/- fixed.Root. -/
import Derived.Test.YtolnhicngepnnaaGreatF10
namespace Go.Proofs.YtolnhicngepnnaaGreat
open Go.RowKit

/-- A root of a valid number. -/
def rootX (f : FuncId) (a : Nat) : Except Int Int := signX (rootM f (a * 65536) (isq (a * 65536))) false
set_option maxRecDepth 100000 in
set_option maxHeartbeats 4000000 in
theorem root30_any (a : Nat) (how : Int) (f : FuncId) (hf : wayF how = some f) (ha : a ≤ 70368744177664) (pa ph : Nat) (w : World) (c0 : w.cell? ⟨pa, 0, none⟩ = some (.int .i64 (a : Int))) (c1 : w.cell? ⟨ph, 0, none⟩ = some (.int .i64 how)) :
    Calls Tryz.prog 56 #[.pointer (some ⟨pa, 0, none⟩), .pointer (some ⟨ph, 0, none⟩)] w fun e w' => EndsX (rootX f a) e ∧ Below w.heap.size w w' := by
  have hw := wayF_is hf
  have HWY := hid (fun W => ways_any how W)
  rw [hf] at HWY
  have HR := hid (fun W v hs => right_any v [(a : Int)] W hs)
  have HRA := hid (show [(a : Int)].all okF = true by simp [okF]; omega)
  have HND := hid (fun W => need_any true 11 W)
  have HPR := hid (fun W => product_any a 65536 (by omega) (by omega) W)
  have HR0 := hid (fun W => root34_any f hw (a * 65536) (by omega) W)
  obtain ⟨sx, hsx⟩ : ∃ r, rootX f a = r := ⟨_, rfl⟩
  have HRT := hid (show ∀ W, Calls Tryz.prog 59 #[wideV (a * 65536), .func (.func f) #[] #[]] W fun e w' => EndsX sx e ∧ Below W.heap.size W w' from fun W => (HR0.out W).mono fun e w' ⟨⟨n, hn, he⟩, hb⟩ => ⟨by rw [← hsx, rootX, ← isq_one hn]; exact he, hb⟩)
  rw [hsx]
  clear HR0 hsx
  generalize wideV (a * 65536) = pv at *
  have HWR := hid (wrapU a (by omega))
  have hge : (0 : Int) ≤ (a : Int) := by omega
  have HCC := hid (And.intro c0 c1)
  have HSL := hid (new_SlI w [(a : Int)] #[.int .i64 (a : Int)] 22 rfl (by simp))
  go_enter Tryz.func56, Tryz.ntmps56
  go_wp2_with fail
  refine (HR.out _ _ HSL.out).mono ?_
  rintro e W1 ⟨he, hb1⟩
  rw [HRA.out] at he
  obtain rfl : e = .returned (.tuple #[]) := he
  have hb1' := btrans ((Below.refl w.heap.size w).alloc (Nat.le_refl _) (.cells #[.int .i64 (a : Int)] 22)) (by simp) hb1
  clear hb1 c0 c1
  have c0 := bcs hb1' HCC.out.1
  have c1 := bcs hb1' HCC.out.2
  have HB1 := hid hb1'
  clear hb1' HCC HR HRA HSL
  go_wp2_with fail
  refine (HWY.out _).mono ?_
  rintro e W2 ⟨rfl, rfl⟩
  go_wp2_with fail
  refine (HND.out _).mono ?_
  rintro e W3 ⟨he, rfl⟩
  obtain rfl : e = .returned (.tuple #[]) := he
  go_wp2_with fail
  refine (HPR.out _).mono ?_
  rintro e W4 ⟨rfl, hb4⟩
  have HB4 := hid (HB1.out.trans (hb4.mono HB1.out.size))
  clear hb4
  go_wp2_with fail
  refine (HRT.out _).mono ?_
  rintro e W5 ⟨he, hb5⟩
  have HB5 := hid (HB4.out.trans (hb5.mono HB4.out.size))
  clear hb5
  cases sx with
  | ok v =>
    obtain rfl := he
    go_wp2_with fail
    go_ret
    exact ⟨rfl, HB5.out⟩
  | error c =>
    obtain rfl := he
    exact ⟨rfl, rfl, HB5.out⟩
set_option maxRecDepth 100000 in
theorem root12_any (a : Nat) (how : Int) (f : FuncId) (hf : wayF how = some f) (ha : a ≤ 70368744177664) (w : World) :
    Calls Tryz.prog 24 #[.int .i64 (a : Int), .int .i64 how] w fun e w' => e = .returned (.tuple #[.int .i64 (valX (rootX f a)), .int .i64 (errX (rootX f a))]) ∧ Below w.heap.size w w' := by
  obtain ⟨W1, hW1⟩ : ∃ W1, (w.alloc (.cells #[.int .i64 (a : Int)] 22)).alloc (.cells #[.int .i64 how] 3) = W1 := ⟨_, rfl⟩
  have hz : W1.heap.size = w.heap.size + 2 := by rw [← hW1]; simp
  have hb1 : Below w.heap.size w W1 := by rw [← hW1]; exact ((Below.refl _ w).alloc (Nat.le_refl _) _).alloc (by simp) _
  have p1 : W1.heap[w.heap.size]? = some (.cells #[.int .i64 (a : Int)] 22 (0, 0)) := by
    rw [← hW1, Below.heap_alloc _ _ _ (by simp)]; exact heap_alloc_new w _
  have q1 : W1.heap[w.heap.size + 1]? = some (.cells #[.int .i64 how] 3 (0, 0)) := by
    rw [← hW1]
    have := heap_alloc_new (w.alloc (.cells #[.int .i64 (a : Int)] 22)) (.cells #[.int .i64 how] 3)
    simpa using this
  have HT := hid (tried_any 56 #[.pointer (some ⟨w.heap.size, 0, none⟩), .pointer (some ⟨w.heap.size + 1, 0, none⟩)] (rootX f a) W1 (enters_of Tryz.func56 (by kernel_rfl) rfl) (fun W hb => root30_any a how f hf ha _ _ W (bcs hb (by simp [World.cell?, p1])) (bcs hb (by simp [World.cell?, q1]))))
  have HW := hid hW1
  have HB := hid hb1
  have hm := run_makeFunc
  clear hW1 hb1 p1 q1 ha hf
  generalize rootX f a = r at *
  go_enter Tryz.func24, Tryz.ntmps24
  go_wp2_with fail
  rw [HW.out]
  clear HW
  refine HT.out.mono ?_
  rintro e w1 ⟨rfl, hb⟩
  go_wp2_with fail
  go_ret2
  exact ⟨rfl, btrans HB.out (by omega) hb⟩
end Go.Proofs.YtolnhicngepnnaaGreat
