/- TopOrder returns true. -/
import Derived.Test.YtolnhicngepnnaaT2
namespace Go.Proofs.Ytolnhicngepnnaa
open Go.RowKit

set_option maxRecDepth 100000 in
set_option maxHeartbeats 8000000 in
theorem order_any (a : Option Addr) (cap : Nat) (l : List StoneD) (off per : Int) (ev : Value) (es : List Int) (w : World) (hs : SlS w (.slice a l.length cap) l) (haw : ∀ ad, a = some ad → ad.block < w.heap.size) (hcap : l.length ≤ cap) (he : SlE w ev es) :
    Calls Try.prog 3 #[.slice a l.length cap, .agg #[.int .i64 off, .int .i64 per], ev] w fun e w' => e = .returned (.bool true) ∧ Below w.heap.size w w' := by
  have HSO := hid (fun W => sound_any W)
  have HAW := hid haw
  have HS := hid hs
  have HE := hid he
  have hln : l.length ≤ 140737488351232 := by obtain ⟨_, _, _, h, _⟩ := hs; exact h
  obtain ⟨ea, ec, rfl, hen, hec⟩ := he.open
  have HEC := hid hec
  obtain ⟨W1, hW1⟩ : ∃ W1, w.alloc (.cells #[.int .i64 off, .int .i64 per] 25) = W1 := ⟨_, rfl⟩
  have hz : W1.heap.size = w.heap.size + 1 := by rw [← hW1]; simp
  have HB1 := hid (show Below w.heap.size w W1 by rw [← hW1]; exact (Below.refl _ w).alloc (Nat.le_refl _) _)
  have HT := hid (show W1.heap[w.heap.size]? = some (.cells #[.int .i64 off, .int .i64 per] 25 (0, 0)) by rw [← hW1]; exact heap_alloc_new w _)
  have HW1 := hid hW1
  clear haw hs he hW1 hec
  by_cases h20 : 20 < l.length
  · have h20I : (20 : Int) < (l.length : Int) := by omega
    go_enter Try.func3, Try.ntmps3
    go_wp2_with fail
    rw [HW1.out]
    refine (HSO.out _).mono ?_
    rintro e w2 ⟨rfl, hb2⟩
    go_wp2_with fail
    go_ret
    exact ⟨rfl, btrans HB1.out (by omega) hb2⟩
  have h20I : ¬ (20 : Int) < (l.length : Int) := by omega
  by_cases h100 : 100 < es.length
  · have h100I : (100 : Int) < (es.length : Int) := by omega
    go_enter Try.func3, Try.ntmps3
    go_wp2_with fail
    rw [HW1.out]
    refine (HSO.out _).mono ?_
    rintro e w2 ⟨rfl, hb2⟩
    go_wp2_with fail
    go_ret
    exact ⟨rfl, btrans HB1.out (by omega) hb2⟩
  have h100I : ¬ (100 : Int) < (es.length : Int) := by omega
  have HEX := hid (fun W (hb : Below w.heap.size w W) => exact_any _ l W (HS.out.below hb))
  by_cases hck : checkR l = true
  case neg =>
    have hck' : checkR l = false := by simpa using hck
    have HN := hid (fun W (hb : Below w.heap.size w W) => sheetNearest_bad _ l W (HS.out.below hb) (fun a' c' e => by obtain ⟨-, -, rfl⟩ := Value.slice.inj e; exact hcap) hck')
    have HCK := hid (fun W (hb : Below w.heap.size w W) => check_any _ l W (HS.out.below hb) (fun a' c' e => by obtain ⟨-, -, rfl⟩ := Value.slice.inj e; exact hcap))
    rw [hck'] at HCK
    have HEX2 := hid (show ∀ W, Below w.heap.size w W → Calls Try.prog 6 #[.slice a l.length cap] W fun e w' => (∃ ad n c q, e = .returned (.tuple #[.slice ad n c, .int .i64 q])) ∧ Below W.heap.size W w' from fun W hb => (HEX.out W hb).mono fun e w' h => by
      obtain ⟨h1, h2⟩ := h
      refine ⟨?_, h2⟩
      split at h1
      · obtain ⟨v, rfl, ho⟩ := h1
        obtain ⟨ad, c, rfl, -⟩ := own_cap ho
        exact ⟨_, _, _, _, rfl⟩
      · exact ⟨_, _, _, _, h1⟩)
    clear hck hck' HEX
    go_enter Try.func3, Try.ntmps3
    go_wp2_with fail
    rw [HW1.out]
    refine (HN.out _ HB1.out).mono ?_
    rintro e w2 ⟨rfl, hb2⟩
    have HB2 := hid (btrans HB1.out (by omega) hb2)
    clear hb2
    go_wp2_with fail
    refine (HEX2.out _ HB2.out).mono ?_
    rintro e w3 ⟨⟨ad, n, c, q, rfl⟩, hb3⟩
    have HB3 := hid (HB2.out.trans (hb3.mono HB2.out.size))
    clear hb3
    go_wp2_with fail
    refine (HCK.out _ HB3.out).mono ?_
    rintro e w4 ⟨rfl, hb4⟩
    have HB4 := hid (HB3.out.trans (hb4.mono HB3.out.size))
    clear hb4
    go_wp2_with fail
    refine (HSO.out _).mono ?_
    rintro e w5 ⟨rfl, hb5⟩
    go_wp2_with fail
    go_ret
    exact ⟨rfl, HB4.out.trans (hb5.mono HB4.out.size)⟩
  case pos => exact order_ok a cap l off per _ es w HS.out HAW.out hcap HE.out hck (by omega)
end Go.Proofs.Ytolnhicngepnnaa
