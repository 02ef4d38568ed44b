/- slices.ContainsFunc over the closures of game.wrongs walked. -/
import Derived.Test.YtolnhicngepnnaaGreatGS3
namespace Go.Proofs.YtolnhicngepnnaaGreat
open Go.RowKit

theorem cellB {w : World} {B : Nat} {cs : Array Value} {t : TypeId} (h : w.heap[B]? = some (.cells cs t (0, 0))) (i : Nat) : w.cell? ⟨B, i, none⟩ = cs[i]? := by simp [World.cell?, h]
theorem BoxL.below {w w' : World} {B : Nat} {x : LineD} (h : BoxL w B x) (hb : Below w.heap.size w w') : BoxL w' B x := ⟨bcs hb h.1, bcs hb h.2.1, bcs hb h.2.2⟩
theorem c64_1 (X P S : Nat) (m : MatchD) (s : StD) (x : LineD) (w : World) (hX : BoxL w X x) (hP : w.cell? ⟨P, 0, none⟩ = some (.pointer (some ⟨S, 0, none⟩))) (hS : SObj w S m s) :
    Calls Tryz.prog 70 #[.func (.func 115) #[] #[.pointer (some ⟨P, 0, none⟩)], .pointer (some ⟨X, 0, none⟩)] w fun e w' => e = .returned (.bool (wr1 s)) ∧ Below w.heap.size w w' := by
  have HC := hid (w1_any P S m s x w hP hS)
  obtain ⟨x0, x1, x2⟩ := hX
  rw [show x.val = .agg #[.int .i64 x.team, .int .i64 x.pts, .bool x.pow] from rfl] at HC
  clear hP hS
  go_enter Tryz.func70, Tryz.ntmps70
  go_wp2_with fail
  refine HC.out.mono ?_
  rintro e w1 ⟨rfl, hb1⟩
  have HB := hid hb1
  clear hb1
  go_wp2_with fail
  go_ret
  exact ⟨rfl, HB.out⟩
theorem c64_2 (X P S : Nat) (m : MatchD) (s : StD) (x : LineD) (w : World) (hX : BoxL w X x) (_hP : w.cell? ⟨P, 0, none⟩ = some (.pointer (some ⟨S, 0, none⟩))) (_hS : SObj w S m s) :
    Calls Tryz.prog 70 #[.func (.func 116) #[] #[], .pointer (some ⟨X, 0, none⟩)] w fun e w' => e = .returned (.bool (wr2 x)) ∧ Below w.heap.size w w' := by
  have HC := hid (w2_any x w)
  obtain ⟨x0, x1, x2⟩ := hX
  rw [show x.val = .agg #[.int .i64 x.team, .int .i64 x.pts, .bool x.pow] from rfl] at HC
  clear _hP _hS
  go_enter Tryz.func70, Tryz.ntmps70
  go_wp2_with fail
  refine HC.out.mono ?_
  rintro e w1 ⟨rfl, hb1⟩
  have HB := hid hb1
  clear hb1
  go_wp2_with fail
  go_ret
  exact ⟨rfl, HB.out⟩
theorem c64_3 (X P S : Nat) (m : MatchD) (s : StD) (x : LineD) (w : World) (hX : BoxL w X x) (_hP : w.cell? ⟨P, 0, none⟩ = some (.pointer (some ⟨S, 0, none⟩))) (_hS : SObj w S m s) :
    Calls Tryz.prog 70 #[.func (.func 117) #[] #[], .pointer (some ⟨X, 0, none⟩)] w fun e w' => e = .returned (.bool (wr3 x)) ∧ Below w.heap.size w w' := by
  have HC := hid (w3_any x w)
  obtain ⟨x0, x1, x2⟩ := hX
  rw [show x.val = .agg #[.int .i64 x.team, .int .i64 x.pts, .bool x.pow] from rfl] at HC
  clear _hP _hS
  go_enter Tryz.func70, Tryz.ntmps70
  go_wp2_with fail
  refine HC.out.mono ?_
  rintro e w1 ⟨rfl, hb1⟩
  have HB := hid hb1
  clear hb1
  go_wp2_with fail
  go_ret
  exact ⟨rfl, HB.out⟩
theorem c64_4 (X P S : Nat) (m : MatchD) (s : StD) (x : LineD) (w : World) (hX : BoxL w X x) (hP : w.cell? ⟨P, 0, none⟩ = some (.pointer (some ⟨S, 0, none⟩))) (hS : SObj w S m s) :
    Calls Tryz.prog 70 #[.func (.func 118) #[] #[.pointer (some ⟨P, 0, none⟩)], .pointer (some ⟨X, 0, none⟩)] w fun e w' => e = .returned (.bool (wr4 m x)) ∧ Below w.heap.size w w' := by
  have HC := hid (w4_any P S m s x w hP hS)
  obtain ⟨x0, x1, x2⟩ := hX
  rw [show x.val = .agg #[.int .i64 x.team, .int .i64 x.pts, .bool x.pow] from rfl] at HC
  clear hP hS
  go_enter Tryz.func70, Tryz.ntmps70
  go_wp2_with fail
  refine HC.out.mono ?_
  rintro e w1 ⟨rfl, hb1⟩
  have HB := hid hb1
  clear hb1
  go_wp2_with fail
  go_ret
  exact ⟨rfl, HB.out⟩
theorem c64_5 (X P S : Nat) (m : MatchD) (s : StD) (x : LineD) (w : World) (hX : BoxL w X x) (hP : w.cell? ⟨P, 0, none⟩ = some (.pointer (some ⟨S, 0, none⟩))) (hS : SObj w S m s) (hh : s.ham = 0 ∨ s.ham = 1) :
    Calls Tryz.prog 70 #[.func (.func 119) #[] #[.pointer (some ⟨P, 0, none⟩)], .pointer (some ⟨X, 0, none⟩)] w fun e w' => e = .returned (.bool (wr5 m s x)) ∧ Below w.heap.size w w' := by
  have HC := hid (w5_any P S m s x w hP hS hh)
  obtain ⟨x0, x1, x2⟩ := hX
  rw [show x.val = .agg #[.int .i64 x.team, .int .i64 x.pts, .bool x.pow] from rfl] at HC
  clear hP hS
  go_enter Tryz.func70, Tryz.ntmps70
  go_wp2_with fail
  refine HC.out.mono ?_
  rintro e w1 ⟨rfl, hb1⟩
  have HB := hid hb1
  clear hb1
  go_wp2_with fail
  go_ret
  exact ⟨rfl, HB.out⟩
/-- The slice of what can be wrong. -/
def WrS (w : World) (V P S : Nat) : Prop := w.cell? ⟨V, 0, none⟩ = some (.func (.func 115) #[] #[.pointer (some ⟨P, 0, none⟩)]) ∧ w.cell? ⟨V, 1, none⟩ = some (.func (.func 116) #[] #[]) ∧ w.cell? ⟨V, 2, none⟩ = some (.func (.func 117) #[] #[]) ∧ w.cell? ⟨V, 3, none⟩ = some (.func (.func 118) #[] #[.pointer (some ⟨P, 0, none⟩)]) ∧ w.cell? ⟨V, 4, none⟩ = some (.func (.func 119) #[] #[.pointer (some ⟨P, 0, none⟩)]) ∧ w.cell? ⟨P, 0, none⟩ = some (.pointer (some ⟨S, 0, none⟩))
theorem WrS.below {w w' : World} {V P S : Nat} (h : WrS w V P S) (hb : Below w.heap.size w w') : WrS w' V P S := ⟨bcs hb h.1, bcs hb h.2.1, bcs hb h.2.2.1, bcs hb h.2.2.2.1, bcs hb h.2.2.2.2.1, bcs hb h.2.2.2.2.2⟩
theorem wrongs_any (S : Nat) (w : World) : Calls Tryz.prog 69 #[.pointer (some ⟨S, 0, none⟩)] w fun e w' => ∃ V P, e = .returned (.slice (some ⟨V, 0, none⟩) 5 5) ∧ WrS w' V P S ∧ Below w.heap.size w w' := by
  go_enter Tryz.func69, Tryz.ntmps69
  go_wp2
  go_ret
  have k0 := heap_alloc2_new w (.cells #[.pointer (some ⟨S, 0, none⟩)] 157) (.cells #[.func (.func 115) #[] #[.pointer (some ⟨w.heap.size, 0, none⟩)], .func (.func 116) #[] #[], .func (.func 117) #[] #[], .func (.func 118) #[] #[.pointer (some ⟨w.heap.size, 0, none⟩)], .func (.func 119) #[] #[.pointer (some ⟨w.heap.size, 0, none⟩)]] 161)
  have k1 := heap_alloc2_old w (.cells #[.pointer (some ⟨S, 0, none⟩)] 157) (.cells #[.func (.func 115) #[] #[.pointer (some ⟨w.heap.size, 0, none⟩)], .func (.func 116) #[] #[], .func (.func 117) #[] #[], .func (.func 118) #[] #[.pointer (some ⟨w.heap.size, 0, none⟩)], .func (.func 119) #[] #[.pointer (some ⟨w.heap.size, 0, none⟩)]] 161)
  refine ⟨w.heap.size + 1, w.heap.size, rfl, ?_, ((Below.refl _ _).alloc (Nat.le_refl _) _).alloc (by simp) _⟩
  refine ⟨?_, ?_, ?_, ?_, ?_, ?_⟩
  · exact cellB k0 0
  · exact cellB k0 1
  · exact cellB k0 2
  · exact cellB k0 3
  · exact cellB k0 4
  · exact cellB k1 0
def wrAny (m : MatchD) (s : StD) (x : LineD) : Bool := wr1 s || wr2 x || wr3 x || wr4 m x || wr5 m s x
/-- slices.IndexFunc over them: no less than 0 just where something is wrong. -/
def IdxP (b : Bool) (w : World) (e : Ending) (w' : World) : Prop := ∃ i : Int, e = .returned (.int .i64 i) ∧ decide (0 ≤ i) = b ∧ Below w.heap.size w w'
set_option maxRecDepth 100000 in
set_option maxHeartbeats 1000000 in
theorem index_wr (V X P S : Nat) (m : MatchD) (s : StD) (x : LineD) (w : World) (hX : BoxL w X x) (hV : WrS w V P S) (hS : SObj w S m s) (hh : s.over = false → s.ham = 0 ∨ s.ham = 1) :
    Calls Tryz.prog 114 #[.slice (some ⟨V, 0, none⟩) 5 5, .func (.func 70) #[] #[.pointer (some ⟨X, 0, none⟩)]] w (IdxP (wrAny m s x) w) := by
  have HX := hid hX
  have HV := hid hV
  have HS := hid hS
  have HH := hid hh
  have HW := hid (show wrAny m s x = (wr1 s || wr2 x || wr3 x || wr4 m x || wr5 m s x) from rfl)
  obtain ⟨q1, hq1⟩ : ∃ b, wr1 s = b := ⟨_, rfl⟩
  obtain ⟨q2, hq2⟩ : ∃ b, wr2 x = b := ⟨_, rfl⟩
  obtain ⟨q3, hq3⟩ : ∃ b, wr3 x = b := ⟨_, rfl⟩
  obtain ⟨q4, hq4⟩ : ∃ b, wr4 m x = b := ⟨_, rfl⟩
  obtain ⟨q5, hq5⟩ : ∃ b, wr5 m s x = b := ⟨_, rfl⟩
  rw [hq1, hq2, hq3, hq4, hq5] at HW
  have H1 := hid (fun W hb => c64_1 X P S m s x W (hX.below hb) (hV.below hb).2.2.2.2.2 (hS.below hb))
  have H2 := hid (fun W hb => c64_2 X P S m s x W (hX.below hb) (hV.below hb).2.2.2.2.2 (hS.below hb))
  have H3 := hid (fun W hb => c64_3 X P S m s x W (hX.below hb) (hV.below hb).2.2.2.2.2 (hS.below hb))
  have H4 := hid (fun W hb => c64_4 X P S m s x W (hX.below hb) (hV.below hb).2.2.2.2.2 (hS.below hb))
  have H5 := hid (fun (h0 : q1 = false) W hb => c64_5 X P S m s x W (hX.below hb) (hV.below hb).2.2.2.2.2 (hS.below hb) (hh (hq1.trans h0)))
  rw [hq1] at H1
  rw [hq2] at H2
  rw [hq3] at H3
  rw [hq4] at H4
  rw [hq5] at H5
  clear hX hV hS hh hq1 hq2 hq3 hq4 hq5
  go_enter Tryz.func114, Tryz.ntmps114
  go_wp2_with fail
  go_loopw [8] (fun i wr => ∃ k : Nat, k ≤ 5 ∧ i = .int .i64 k ∧ Below w.heap.size w wr ∧ (1 ≤ k → q1 = false) ∧ (2 ≤ k → q2 = false) ∧ (3 ≤ k → q3 = false) ∧ (4 ≤ k → q4 = false) ∧ (5 ≤ k → q5 = false)) (fun i _ => 5 - (intOf i).toNat)
  case atStart => exact ⟨0, by omega, rfl, Below.refl _ _, by omega, by omega, by omega, by omega, by omega⟩
  case round =>
    obtain ⟨k, hk, rfl, hb, g1, g2, g3, g4, g5⟩ := hrel
    obtain ⟨wo, rfl⟩ : ∃ wo, wo = wr := ⟨_, rfl⟩
    have HB := hid hb
    obtain ⟨v0, v1, v2, v3, v4, vp⟩ := HV.out.below hb
    have G1 := hid g1
    have G2 := hid g2
    have G3 := hid g3
    have G4 := hid g4
    have G5 := hid g5
    clear hb g1 g2 g3 g4 g5 vp
    rcases (by omega : k = 0 ∨ k = 1 ∨ k = 2 ∨ k = 3 ∨ k = 4 ∨ k = 5) with rfl | rfl | rfl | rfl | rfl | rfl
    · clear hk v1 v2 v3 v4
      go_wp2_with fail
      refine (H1.out wo HB.out).mono ?_
      rintro e w1 ⟨rfl, hb1⟩
      have HB1 := hid (HB.out.trans (hb1.mono HB.out.size))
      clear hb1 v0
      cases q1 with
      | true =>
        go_wp2_with fail
        go_ret
        exact ⟨0, rfl, by rw [HW.out]; simp, HB1.out⟩
      | false =>
        go_wp2_with fail
        exact ⟨⟨1, by omega, by go_num, HB1.out, (by first | trivial | exact fun _ => rfl), (by first | omega | trivial | (intro h; exact absurd h (by omega))), (by first | omega | trivial | (intro h; exact absurd h (by omega))), (by first | omega | trivial | (intro h; exact absurd h (by omega))), (by first | omega | trivial | (intro h; exact absurd h (by omega)))⟩, by simp [intOf]⟩
    · clear hk v0 v2 v3 v4
      go_wp2_with fail
      refine (H2.out wo HB.out).mono ?_
      rintro e w1 ⟨rfl, hb1⟩
      have HB1 := hid (HB.out.trans (hb1.mono HB.out.size))
      clear hb1 v1
      cases q2 with
      | true =>
        go_wp2_with fail
        go_ret
        exact ⟨1, rfl, by rw [HW.out]; simp, HB1.out⟩
      | false =>
        go_wp2_with fail
        exact ⟨⟨2, by omega, by go_num, HB1.out, (by first | trivial | exact fun _ => G1.out (by omega)), (by first | trivial | exact fun _ => rfl), (by first | omega | trivial | (intro h; exact absurd h (by omega))), (by first | omega | trivial | (intro h; exact absurd h (by omega))), (by first | omega | trivial | (intro h; exact absurd h (by omega)))⟩, by simp [intOf]⟩
    · clear hk v0 v1 v3 v4
      go_wp2_with fail
      refine (H3.out wo HB.out).mono ?_
      rintro e w1 ⟨rfl, hb1⟩
      have HB1 := hid (HB.out.trans (hb1.mono HB.out.size))
      clear hb1 v2
      cases q3 with
      | true =>
        go_wp2_with fail
        go_ret
        exact ⟨2, rfl, by rw [HW.out]; simp, HB1.out⟩
      | false =>
        go_wp2_with fail
        exact ⟨⟨3, by omega, by go_num, HB1.out, (by first | trivial | exact fun _ => G1.out (by omega)), (by first | trivial | exact fun _ => G2.out (by omega)), (by first | trivial | exact fun _ => rfl), (by first | omega | trivial | (intro h; exact absurd h (by omega))), (by first | omega | trivial | (intro h; exact absurd h (by omega)))⟩, by simp [intOf]⟩
    · clear hk v0 v1 v2 v4
      go_wp2_with fail
      refine (H4.out wo HB.out).mono ?_
      rintro e w1 ⟨rfl, hb1⟩
      have HB1 := hid (HB.out.trans (hb1.mono HB.out.size))
      clear hb1 v3
      cases q4 with
      | true =>
        go_wp2_with fail
        go_ret
        exact ⟨3, rfl, by rw [HW.out]; simp, HB1.out⟩
      | false =>
        go_wp2_with fail
        exact ⟨⟨4, by omega, by go_num, HB1.out, (by first | trivial | exact fun _ => G1.out (by omega)), (by first | trivial | exact fun _ => G2.out (by omega)), (by first | trivial | exact fun _ => G3.out (by omega)), (by first | trivial | exact fun _ => rfl), (by first | omega | trivial | (intro h; exact absurd h (by omega)))⟩, by simp [intOf]⟩
    · clear hk v0 v1 v2 v3
      go_wp2_with fail
      refine ((H5.out (G1.out (by omega))) wo HB.out).mono ?_
      rintro e w1 ⟨rfl, hb1⟩
      have HB1 := hid (HB.out.trans (hb1.mono HB.out.size))
      clear hb1 v4
      cases q5 with
      | true =>
        go_wp2_with fail
        go_ret
        exact ⟨4, rfl, by rw [HW.out]; simp, HB1.out⟩
      | false =>
        go_wp2_with fail
        exact ⟨⟨5, by omega, by go_num, HB1.out, (by first | trivial | exact fun _ => G1.out (by omega)), (by first | trivial | exact fun _ => G2.out (by omega)), (by first | trivial | exact fun _ => G3.out (by omega)), (by first | trivial | exact fun _ => G4.out (by omega)), (by first | trivial | exact fun _ => rfl)⟩, by simp [intOf]⟩
    · clear hk v0 v1 v2 v3 v4
      go_wp2_with fail
      go_ret
      exact ⟨-1, rfl, by rw [HW.out, G1.out (by omega), G2.out (by omega), G3.out (by omega), G4.out (by omega), G5.out (by omega)]; simp, HB.out⟩
theorem contains_wr (V X P S : Nat) (m : MatchD) (s : StD) (x : LineD) (w : World) (hX : BoxL w X x) (hV : WrS w V P S) (hS : SObj w S m s) (hh : s.over = false → s.ham = 0 ∨ s.ham = 1) :
    Calls Tryz.prog 68 #[.slice (some ⟨V, 0, none⟩) 5 5, .func (.func 70) #[] #[.pointer (some ⟨X, 0, none⟩)]] w fun e w' => e = .returned (.bool (!fits m s x)) ∧ Below w.heap.size w w' := by
  have HI := hid (index_wr V X P S m s x w hX hV hS hh)
  rw [show wrAny m s x = !fits m s x from fits_wr m s x] at HI
  clear hX hV hS hh
  go_enter Tryz.func68, Tryz.ntmps68
  go_wp2_with fail
  refine HI.out.mono ?_
  rintro e w1 ⟨i, rfl, hi, hb1⟩
  have HB := hid hb1
  have HQ := hid hi
  clear hb1 hi
  go_wp2_with fail
  go_ret
  exact ⟨ret_bool (by rw [← HQ.out]), HB.out⟩
end Go.Proofs.YtolnhicngepnnaaGreat
