/- Do stones overlap? And slices.IndexFunc over ints. -/
import Derived.Test.YtolnhicngepnnaaS3
import Derived.Deep.RegionHeld3
namespace Go.Proofs.Ytolnhicngepnnaa
open Go.RowKit

/-- No two stones overlap. -/
def apartR : List StoneD → Bool
  | [] => true
  | x :: r => !(r.any (ovl x)) && apartR r
theorem apartR_all : ∀ (l : List StoneD), (∀ i (h : i < l.length), (l.drop (i + 1)).any (ovl l[i]) = false) → apartR l = true
  | [], _ => rfl
  | x :: r, h => by
    have h0 := h 0 (by simp)
    simp only [List.drop_succ_cons, List.drop_zero, List.getElem_cons_zero] at h0
    have h1 := apartR_all r (fun i hi => by have := h (i + 1) (by simpa using hi); simpa using this)
    simp [apartR, h0, h1]
theorem apartR_not : ∀ (l : List StoneD) (i : Nat) (h : i < l.length), (l.drop (i + 1)).any (ovl l[i]) = true → apartR l = false
  | x :: r, 0, _, ht => by
    simp only [List.drop_succ_cons, List.drop_zero, List.getElem_cons_zero] at ht
    simp only [apartR, ht]; rfl
  | x :: r, i + 1, h, ht => by
    have := apartR_not r i (by simpa using h) (by simpa using ht)
    simp [apartR, this]
/-- The first of a pair that overlaps, or -1. -/
def PairPost (l : List StoneD) (w : World) (e : Ending) (w' : World) : Prop := (∃ i k : Int, e = .returned (.tuple #[.int .i64 i, .int .i64 k]) ∧ decide (i < 0) = apartR l) ∧ Below w.heap.size w w'
set_option maxHeartbeats 2000000 in
theorem pair42_any (v : Value) (l : List StoneD) (w : World) (hs : SlS w v l) (hcap : ∀ a cap, v = .slice a l.length cap → l.length ≤ cap) (hl : l.length ≤ 1000) :
    Calls Try.prog 45 #[v, .func (.func 46) #[] #[]] w (PairPost l w) := by
  have HS := hid hs
  obtain ⟨a, cap, rfl, -, hc⟩ := hs.open
  have hcp := hcap a cap rfl
  clear hs hcap
  have HC := hid hc
  clear hc
  have hmf : ∀ (fn : Fn) (first cap : Array Value) (w : World), (Instr.makeFunc fn first cap).run Try.prog w = .ok (.func fn first cap) w := fun _ _ _ _ => rfl
  have hb0 : Below w.heap.size w (w.alloc (.cells #[.func (.func 46) #[] #[]] 101)) := (Below.refl _ _).alloc (Nat.le_refl _) _
  have f0 := cell_new' w #[.func (.func 46) #[] #[]] 101 0 _ rfl
  have hz0 : (w.alloc (.cells #[.func (.func 46) #[] #[]] 101)).heap.size = w.heap.size + 1 := by simp
  go_enter Try.func45, Try.ntmps45
  go_wp2_with fail
  generalize w.alloc (.cells #[.func (.func 46) #[] #[]] 101) = W0 at *
  have HB0 := hid hb0
  have HF0 := hid f0
  have HZ0 := hid hz0
  clear hb0 f0 hz0
  go_loopw [11] (fun i wr => ∃ k : Nat, k ≤ l.length ∧ i = .int .i64 k ∧ Below W0.heap.size W0 wr ∧ ∀ j (h : j < l.length), j < k → (l.drop (j + 1)).any (ovl l[j]) = false) (fun i _ => l.length - (intOf i).toNat)
  case atStart => exact ⟨0, Nat.zero_le _, rfl, Below.refl _ _, by omega⟩
  case round =>
    obtain ⟨k, hk, rfl, hb, hno⟩ := hrel
    obtain ⟨wo, rfl⟩ : ∃ wo, wo = wr := ⟨_, rfl⟩
    have HN := hid hno
    have HB := hid hb
    clear hno
    by_cases hlt : k < l.length
    · have hbw := HB0.out.trans (hb.mono HB0.out.size)
      obtain ⟨b, off, rfl, hbl, hc⟩ := HC.out k hlt
      have hx0 := (hbw.cell (p := ⟨b, off + k * 4, none⟩) hbl).trans (hc k hlt).1
      have hx1 := (hbw.cell (p := ⟨b, off + k * 4 + 1, none⟩) hbl).trans (hc k hlt).2.1
      have hx2 := (hbw.cell (p := ⟨b, off + k * 4 + 2, none⟩) hbl).trans (hc k hlt).2.2.1
      have hx3 := (hbw.cell (p := ⟨b, off + k * 4 + 3, none⟩) hbl).trans (hc k hlt).2.2.2
      have HSO := hid (HS.out.below hbw)
      have f1 : wo.cell? ⟨w.heap.size, 0, none⟩ = some (.func (.func 46) #[] #[]) := (hb.cell (p := ⟨w.heap.size, 0, none⟩) (by show w.heap.size < W0.heap.size; have := HZ0.out; omega)).trans HF0.out
      have HF1 := hid f1
      have HBW := hid hbw
      clear hc hb hbw f1
      obtain ⟨x, hxe⟩ : ∃ x, l[k] = x := ⟨_, rfl⟩
      rw [hxe] at hx0 hx1 hx2 hx3
      have HX := hid hxe
      clear hxe
      go_upto_region 4 with fail
      have hb2 : Below wo.heap.size wo (wo.alloc (.cells #[.int .i64 x.team, .int .i64 x.n, .int .i64 x.x, .int .i64 x.y] 49)) := (Below.refl _ _).alloc (Nat.le_refl _) _
      have HA2 := hid (show (wo.alloc (.cells #[.int .i64 x.team, .int .i64 x.n, .int .i64 x.x, .int .i64 x.y] 49)).heap[wo.heap.size]? = some (.cells x.cells.toArray 49 (0, 0)) from heap_alloc_new _ _)
      generalize wo.alloc (.cells #[.int .i64 x.team, .int .i64 x.n, .int .i64 x.x, .int .i64 x.y] 49) = W2 at *
      have HB2 := hid hb2
      have hrest : ∀ a c, (k + 1 < l.length → a = some ⟨b, off + (k + 1) * 4, none⟩) → Calls Try.prog 69 #[.slice a (l.length - (k + 1)) c, .func (.func 70) #[] #[.pointer (some ⟨w.heap.size, 0, none⟩), .pointer (some ⟨wo.heap.size, 0, none⟩)]] W2 fun e w' => e = .returned (.int .i64 (idxOf (ovl x) (l.drop (k + 1)))) ∧ Below W2.heap.size W2 w' := by
        intro a c ha
        refine index_stone (ovl x) _ _ _ (l.drop (k + 1)) W2 ((SlS.rest HSO.out k hlt a ha c).below HB2.out) (fun y _ w1 hb1 => pair1_any x y w.heap.size wo.heap.size w1 (bcs hb1 (bcs HB2.out HF1.out)) ?_)
        exact (hb1.block _ (Array.getElem?_eq_some_iff.1 HA2.out).1).trans HA2.out
      have HR := hid hrest
      clear hrest hb2 hx0 hx1 hx2 hx3
      have e1 : (0 : Int) ≤ (k : Int) + 1 := by omega
      have e2 : (k : Int) + 1 ≤ (l.length : Int) := by omega
      have e3 : (k : Int) + 1 ≤ (cap : Int) := by omega
      have e4 : k + 1 ≤ l.length := by omega
      have e5 : k + 1 ≤ cap := by omega
      by_cases hce : cap = k + 1
      · have hce2 : (cap = k + 1) = True := by simp [hce]
        have HCE := hid hce
        clear hce
        go_wp2_with fail
        refine (HR.out _ _ (fun h => by have := HCE.out; omega)).mono ?_
        rintro e w3 ⟨rfl, hb3⟩
        have HB3 := hid ((HB.out.trans (HB2.out.mono HB.out.size)).trans (hb3.mono (Nat.le_trans HB.out.size HB2.out.size)))
        have HANY := hid (idxOf_any (ovl x) (l.drop (k + 1)))
        have hlo : -1 ≤ idxOf (ovl x) (l.drop (k + 1)) ∧ idxOf (ovl x) (l.drop (k + 1)) ≤ l.length := by
          unfold idxOf
          cases hf : (l.drop (k + 1)).findIdx? (ovl x) with
          | none => exact ⟨by simp, by simp⟩
          | some j =>
            rw [List.findIdx?_eq_some_iff_getElem] at hf
            obtain ⟨hj, _⟩ := hf
            simp at hj
            simp only
            omega
        obtain ⟨i, hi⟩ : ∃ i, idxOf (ovl x) (l.drop (k + 1)) = i := ⟨_, rfl⟩
        rw [hi] at hlo HANY
        rw [hi]
        obtain ⟨hlo1, hlo2⟩ := hlo
        clear hi hb3
        by_cases hi0 : 0 ≤ i
        · have HAN := hid (show apartR l = false from apartR_not l k hlt (by rw [HX.out, ← HANY.out]; simpa using hi0))
          go_wp2_with fail
          go_ret2
          exact ⟨⟨k, k + 1 + i, rfl, by rw [HAN.out]; simp⟩, HB0.out.trans (HB3.out.mono HB0.out.size)⟩
        · have HAN := hid (show (l.drop (k + 1)).any (ovl x) = false by rw [← HANY.out]; simpa using hi0)
          go_wp2_with fail
          refine ⟨⟨k + 1, by omega, by go_num, HB3.out, ?_⟩, by simp only [intOf]; omega⟩
          intro j hj hjk
          by_cases e : j = k
          · subst e; rw [HX.out]; exact HAN.out
          · exact HN.out j hj (by omega)
      · go_wp2_with fail
        refine (HR.out _ _ (fun _ => rfl)).mono ?_
        rintro e w3 ⟨rfl, hb3⟩
        have HB3 := hid ((HB.out.trans (HB2.out.mono HB.out.size)).trans (hb3.mono (Nat.le_trans HB.out.size HB2.out.size)))
        have HANY := hid (idxOf_any (ovl x) (l.drop (k + 1)))
        have hlo : -1 ≤ idxOf (ovl x) (l.drop (k + 1)) ∧ idxOf (ovl x) (l.drop (k + 1)) ≤ l.length := by
          unfold idxOf
          cases hf : (l.drop (k + 1)).findIdx? (ovl x) with
          | none => exact ⟨by simp, by simp⟩
          | some j =>
            rw [List.findIdx?_eq_some_iff_getElem] at hf
            obtain ⟨hj, _⟩ := hf
            simp at hj
            simp only
            omega
        obtain ⟨i, hi⟩ : ∃ i, idxOf (ovl x) (l.drop (k + 1)) = i := ⟨_, rfl⟩
        rw [hi] at hlo HANY
        rw [hi]
        obtain ⟨hlo1, hlo2⟩ := hlo
        clear hi hb3
        by_cases hi0 : 0 ≤ i
        · have HAN := hid (show apartR l = false from apartR_not l k hlt (by rw [HX.out, ← HANY.out]; simpa using hi0))
          go_wp2_with fail
          go_ret2
          exact ⟨⟨k, k + 1 + i, rfl, by rw [HAN.out]; simp⟩, HB0.out.trans (HB3.out.mono HB0.out.size)⟩
        · have HAN := hid (show (l.drop (k + 1)).any (ovl x) = false by rw [← HANY.out]; simpa using hi0)
          go_wp2_with fail
          refine ⟨⟨k + 1, by omega, by go_num, HB3.out, ?_⟩, by simp only [intOf]; omega⟩
          intro j hj hjk
          by_cases e : j = k
          · subst e; rw [HX.out]; exact HAN.out
          · exact HN.out j hj (by omega)
    · go_wp2_with fail
      go_ret2
      have HH := hid (apartR_all l (fun j hj => HN.out j hj (by omega)))
      exact ⟨⟨-1, -1, rfl, by rw [HH.out]; rfl⟩, HB0.out.trans (HB.out.mono HB0.out.size)⟩
end Go.Proofs.Ytolnhicngepnnaa
