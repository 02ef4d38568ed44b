/- The column of a line: the plain law; the closure of game.Board walked. -/
import Derived.Test.YtdbfnonpndlejaaDoorH0
import Derived.Test.YtdbfnonpndlejaaDoorSh
import Derived.Test.YtdbfnonpndlejaaDoorB1
namespace Go.Proofs.YtdbfnonpndlejaaDoor
open Go.RowKit Go.Shelf

def colL (t ham : Int) (x : LineD) : List UInt8 := Lib.itoa (if x.team = t then x.pts else 0) ++ (if x.pow && ham == t then [112] else [])
theorem itoa_len (n : Int) (h : 0 ≤ n) : ((Lib.itoa n).length : Int) ≤ n + 1 := by
  unfold Lib.itoa
  rw [if_neg (by omega)]
  have := dec_len n.toNat
  omega
theorem itoa_zero : Lib.itoa 0 = [48] := by
  unfold Lib.itoa
  rw [if_neg (by omega)]
  exact dec_small 0 (by omega)
theorem bapp' (a : List UInt8) : (⟨a.toArray⟩ : ByteArray) ++ ⟨#[112]⟩ = ⟨(a ++ [112]).toArray⟩ := bapp a [112]
theorem colL_len (t ham : Int) (x : LineD) (h : 0 ≤ x.pts ∧ x.pts ≤ 8) : (colL t ham x).length ≤ 10 := by
  unfold colL
  rw [List.length_append]
  have h1 := itoa_len (if x.team = t then x.pts else 0) (by split <;> omega)
  have h2 : (if x.team = t then x.pts else 0) ≤ 8 := by split <;> omega
  have h3 : (if x.pow && ham == t then [112] else ([] : List UInt8)).length ≤ 1 := by split <;> simp
  omega
set_option maxRecDepth 100000 in
set_option maxHeartbeats 1000000 in
theorem col_any (i : Nat) (x : LineD) (T H : Nat) (t : Int) (v : Value) (hams : List Int) (w : World) (hT : w.cell? ⟨T, 0, none⟩ = some (.int .i64 t)) (hH : w.cell? ⟨H, 0, none⟩ = some v) (hv : SlI w v hams)
    (hi : i < hams.length) (hx : 0 ≤ x.pts ∧ x.pts ≤ 8) (hW : TabW w) :
    Calls Tryd.prog 47 #[.int .i64 i, x.val, .pointer (some ⟨T, 0, none⟩), .pointer (some ⟨H, 0, none⟩)] w fun e w' => e = .returned (bstr (colL t (hams.getD i 0) x)) ∧ Below w.heap.size w w' := by
  rw [show x.val = .agg #[.int .i64 x.team, .int .i64 x.pts, .bool x.pow] from rfl]
  obtain ⟨av, cv, rfl, hlen, hc0⟩ := hv.open
  obtain ⟨b, off, rfl, hb, hc⟩ := hc0 i hi
  have hTl := World.block_lt_of_cell? w ⟨T, 0, none⟩ hT
  have hHl := World.block_lt_of_cell? w ⟨H, 0, none⟩ hH
  have hci := hc i hi
  clear hc hc0
  have hgi : hams.getD i 0 = hams[i] := by rw [List.getD_eq_getElem?_getD, List.getElem?_eq_getElem hi]; rfl
  rw [hgi]
  generalize hams[i] = ham at *
  have HI := hid (show Calls Tryd.prog 48 #[.int .i64 x.pts] (w.alloc (.cells #[.int .i64 x.team, .int .i64 x.pts, .bool x.pow] 42)) fun e w' => e = .returned (.string ⟨(Lib.itoa x.pts).toArray⟩) ∧ Below (w.alloc (.cells #[.int .i64 x.team, .int .i64 x.pts, .bool x.pow] 42)).heap.size (w.alloc (.cells #[.int .i64 x.team, .int .i64 x.pts, .bool x.pow] 42)) w' from
    itoa_any x.pts (by omega) (by omega) _ (hW.below ((Below.refl _ _).alloc (Nat.le_refl _) _)))
  have hlI := itoa_len x.pts hx.1
  obtain ⟨q, hq⟩ : ∃ q, Lib.itoa x.pts = q := ⟨_, rfl⟩
  rw [hq] at HI hlI
  have hlf : (9223372036854775807 < q.length + 1) = False := by simp; omega
  have HQ := hid hq
  have hil : (i : Int) < (hams.length : Int) := by omega
  have HCL := hid (colL.eq_1 t ham x)
  go_enter Tryd.func47, Tryd.ntmps47
  by_cases ht : x.team = t
  · have htb : (x.team == t) = true := by simp [ht]
    have HTT := hid (show (if x.team = t then x.pts else 0) = x.pts by rw [if_pos ht])
    clear ht
    go_upto_region 4 with (go_at_call 48; refine HI.out.mono ?_; rintro e w2 ⟨rfl, hb2⟩)
    have hbw : Below w.heap.size w w2 := ((Below.refl _ _).alloc (Nat.le_refl _) _).trans (hb2.mono (by simp))
    have c1 := rdB hbw hTl hT
    have c2 := rdB hbw hHl hH
    have c3 := rdB hbw hb hci
    have x2 : w2.cell? ⟨w.heap.size, 2, none⟩ = some (.bool x.pow) := by
      have h := (hb2.block w.heap.size (by simp)).trans (heap_alloc_new w _)
      exact cellB h 2
    clear hT hH hci hb2
    cases hp : x.pow with
    | true =>
      rw [hp] at HCL x2
      clear hp
      by_cases hm : ham = t
      · have hmb : (ham == t) = true := by simp [hm]
        rw [hmb] at HCL
        clear hm
        go_quiet (fail)
        go_wp2_with fail
        go_ret
        refine ⟨?_, drewNB hbw _⟩
        rw [HCL.out, HTT.out, HQ.out]
        first | rfl | (simp only [bapp', bstr]; rfl)
      · have hmb : (ham == t) = false := by simp [hm]
        rw [hmb] at HCL
        clear hm
        go_quiet (fail)
        go_wp2_with fail
        go_ret
        refine ⟨?_, drewNB hbw _⟩
        rw [HCL.out, HTT.out, HQ.out]
        first | (simp [bstr]; done) | (simp [bstr]; rfl)
    | false =>
      rw [hp] at HCL x2
      clear hp
      go_quiet (fail)
      go_wp2_with fail
      go_ret
      refine ⟨?_, drewNB hbw _⟩
      rw [HCL.out, HTT.out, HQ.out]
      first | (simp [bstr]; done) | (simp [bstr]; rfl)
  · have htb : (x.team == t) = false := by simp [ht]
    have HTT := hid (show (if x.team = t then x.pts else 0) = 0 by rw [if_neg ht])
    clear ht
    go_upto_region 4 with fail
    cases hp : x.pow with
    | true =>
      rw [hp] at HCL 
      clear hp
      by_cases hm : ham = t
      · have hmb : (ham == t) = true := by simp [hm]
        rw [hmb] at HCL
        clear hm
        go_quiet (fail)
        go_wp2_with fail
        go_ret
        refine ⟨?_, drewNB ((Below.refl _ _).alloc (Nat.le_refl _) _) _⟩
        rw [HCL.out, HTT.out, itoa_zero]
        first | rfl | (simp only [bapp', bstr]; rfl)
      · have hmb : (ham == t) = false := by simp [hm]
        rw [hmb] at HCL
        clear hm
        go_quiet (fail)
        go_wp2_with fail
        go_ret
        refine ⟨?_, drewNB ((Below.refl _ _).alloc (Nat.le_refl _) _) _⟩
        rw [HCL.out, HTT.out, itoa_zero]
        first | (simp [bstr]; done) | (simp [bstr]; rfl)
    | false =>
      rw [hp] at HCL 
      clear hp
      go_quiet (fail)
      go_wp2_with fail
      go_ret
      refine ⟨?_, drewNB ((Below.refl _ _).alloc (Nat.le_refl _) _) _⟩
      rw [HCL.out, HTT.out, itoa_zero]
      first | (simp [bstr]; done) | (simp [bstr]; rfl)
end Go.Proofs.YtdbfnonpndlejaaDoor
