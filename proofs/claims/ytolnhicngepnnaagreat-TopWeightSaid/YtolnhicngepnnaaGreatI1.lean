/- ice: bounds, places, lists of grains. -/
import Derived.Test.YtolnhicngepnnaaGreatF11
namespace Go.Proofs.YtolnhicngepnnaaGreat
open Go.RowKit

theorem within75_any (n a b : Int) (w : World) : Calls Tryz.prog 87 #[.int .i64 n, .int .i64 a, .int .i64 b] w fun e w' => e = .returned (.bool (inB n a b)) ∧ w' = w := by
  go_enter Tryz.func87, Tryz.ntmps87
  go_wp2
  all_goals (go_ret; exact ⟨ret_bool (by simp [inB, *]; try omega), rfl⟩)
theorem within76_any (n a b : Int) (w : World) : Calls Tryz.prog 88 #[.int .i64 n, .int .i64 a, .int .i64 b] w fun e w' => e = .returned (.bool (inB n a b)) ∧ w' = w := by
  go_enter Tryz.func88, Tryz.ntmps88
  go_wp2
  all_goals (go_ret; exact ⟨ret_bool (by simp [inB, *]; try omega), rfl⟩)
/-- A slice of places. -/
def spotCells (p : Int × Int) : List Value := [.int .i64 p.1, .int .i64 p.2]
def SlP (w : World) (v : Value) (l : List (Int × Int)) : Prop := SlV w v l.length (l.flatMap spotCells)
theorem SlP.below {w w' : World} {v : Value} {l : List (Int × Int)} (h : SlP w v l) (hb : Below w.heap.size w w') : SlP w' v l := SlV.below h hb
theorem spot_cells_get : ∀ (l : List (Int × Int)) (j : Nat) (h : j < l.length) (c : Nat) (_hc : c < 2), (l.flatMap spotCells)[j * 2 + c]? = (spotCells l[j])[c]?
  | x :: l, 0, _, c, hc => by
    simp only [List.flatMap_cons, Nat.zero_mul, Nat.zero_add, List.getElem_cons_zero]
    rw [List.getElem?_append_left (by simpa [spotCells] using hc)]
  | x :: l, j + 1, h, c, hc => by
    have := spot_cells_get l j (by simpa using h) c hc
    simp only [List.flatMap_cons, List.getElem_cons_succ]
    rw [List.getElem?_append_right (by simp [spotCells]; omega), ← this]
    congr 1
    simp [spotCells]; omega
theorem SlP.open {w : World} {v : Value} {l : List (Int × Int)} (h : SlP w v l) :
    ∃ a cap, v = .slice a l.length cap ∧ l.length ≤ 140737488351232 ∧ ∀ k, k < l.length → ∃ b off, a = some ⟨b, off, none⟩ ∧ b < w.heap.size ∧
      ∀ j (h : j < l.length), w.cell? ⟨b, off + j * 2, none⟩ = some (.int .i64 l[j].1) ∧ w.cell? ⟨b, off + j * 2 + 1, none⟩ = some (.int .i64 l[j].2) := by
  obtain ⟨a, cap, rfl, hn, hc⟩ := h
  refine ⟨a, cap, rfl, hn, fun k hk => ?_⟩
  rcases hc with hc | ⟨b, off, rfl, hlt, hc⟩
  · omega
  · refine ⟨b, off, rfl, hlt, fun j hj => ?_⟩
    have key : ∀ c (hc4 : c < 2) u, (spotCells l[j])[c]? = some u → w.cell? ⟨b, off + (j * 2 + c), none⟩ = some u := by
      intro c hc4 u hu
      rw [← spot_cells_get l j hj c hc4] at hu
      obtain ⟨h2, h3⟩ := List.getElem?_eq_some_iff.1 hu
      rw [hc _ h2, h3]
    exact ⟨key 0 (by omega) _ rfl, key 1 (by omega) _ rfl⟩
theorem new_SlP (w : World) (x y : Int) (t : TypeId) : SlP (w.alloc (.cells #[.int .i64 x, .int .i64 y] t)) (.slice (some ⟨w.heap.size, 0, none⟩) 1 1) [(x, y)] := by
  refine ⟨_, _, rfl, by simp, .inr ⟨w.heap.size, 0, rfl, by simp, fun i hi => ?_⟩⟩
  rw [World.cell?_alloc_new]
  have hi2 : i < 2 := by simpa [spotCells] using hi
  rcases (show i = 0 ∨ i = 1 by omega) with rfl | rfl <;> rfl
theorem placed79_any (x y : Int) (w : World) : Calls Tryz.prog 91 #[.agg #[.int .i64 x, .int .i64 y]] w fun e w' => e = .returned (.bool (!spotOk x y)) ∧ Below w.heap.size w w' := by
  have H := hid (show spotOk x y = (inB x (-6553600000) 6553600000 && inB y (-6553600000) 6553600000) from rfl)
  have H1 := hid (fun W => within76_any x (-6553600000) 6553600000 W)
  have H2 := hid (fun W => within76_any y (-6553600000) 6553600000 W)
  generalize inB x (-6553600000) 6553600000 = b1 at *
  generalize inB y (-6553600000) 6553600000 = b2 at *
  go_enter Tryz.func91, Tryz.ntmps91
  cases b1
  · go_wp2_with fail
    refine (H1.out _).mono ?_
    rintro e w' ⟨rfl, rfl⟩
    go_wp2_with fail
    go_ret
    exact ⟨by rw [H.out]; rfl, (Below.refl _ _).alloc (Nat.le_refl _) _⟩
  · go_wp2_with fail
    refine (H1.out _).mono ?_
    rintro e w' ⟨rfl, rfl⟩
    go_wp2_with fail
    refine (H2.out _).mono ?_
    rintro e w' ⟨rfl, rfl⟩
    go_wp2_with fail
    go_ret
    exact ⟨by rw [H.out]; rfl, (Below.refl _ _).alloc (Nat.le_refl _) _⟩
set_option maxHeartbeats 1000000 in
theorem index86_any (v : Value) (l : List (Int × Int)) (w : World) (hs : SlP w v l) :
    Calls Tryz.prog 146 #[v, .func (.func 91) #[] #[]] w fun e w' => e = .returned (.int .i64 (idxOf (fun p => !spotOk p.1 p.2) l)) ∧ Below w.heap.size w w' := by
  obtain ⟨a, cap, rfl, hl, hc⟩ := hs.open
  clear hs
  have HF := hid (fun (x y : Int) (W : World) => placed79_any x y W)
  have HC := hid hc
  clear hc
  obtain ⟨p, hpe⟩ : ∃ p : Int × Int → Bool, (fun q => !spotOk q.1 q.2) = p := ⟨_, rfl⟩
  have HPE := hid (show ∀ x y : Int, (!spotOk x y) = p (x, y) from fun x y => by rw [← hpe])
  rw [hpe]
  clear hpe
  go_enter Tryz.func146, Tryz.ntmps146
  go_wp2
  go_loopw [8] (fun i wr => ∃ k : Nat, k ≤ l.length ∧ i = .int .i64 k ∧ Below w.heap.size w wr ∧ ∀ j (h : j < l.length), j < k → p l[j] = false) (fun i _ => l.length - (intOf i).toNat)
  case atStart => exact ⟨0, Nat.zero_le _, rfl, Below.refl _ _, by omega⟩
  case round =>
    obtain ⟨k, hk, rfl, hb, hno⟩ := hrel
    have HN := hid hno
    clear hno
    by_cases hlt : k < l.length
    · obtain ⟨b, off, rfl, hbl, hc⟩ := HC.out k hlt
      have hx0 := (hb.cell (p := ⟨b, off + k * 2, none⟩) hbl).trans (hc k hlt).1
      have hx1 := (hb.cell (p := ⟨b, off + k * 2 + 1, none⟩) hbl).trans (hc k hlt).2
      clear hc HC
      generalize hxe : l[k] = x at *
      have HX := hid hxe
      clear hxe
      obtain ⟨x1, x2⟩ := x
      dsimp only at hx0 hx1
      have hcall := hid (HF.out x1 x2 wr)
      rw [HPE.out] at hcall
      go_wp2_with fail
      refine hcall.out.mono ?_
      rintro e w' ⟨rfl, hb2⟩
      clear hcall
      by_cases hp : p (x1, x2) = true
      · go_wp2
        go_ret
        exact ⟨ret_int (idxOf_hit p l k hlt HN.out (by rw [HX.out]; exact hp)).symm, hb.trans (hb2.mono hb.size)⟩
      · have hp' : p (x1, x2) = false := by simpa using hp
        go_wp2
        go_roundw
        case rel =>
          refine ⟨k + 1, by omega, by go_num, hb.trans (hb2.mono hb.size), ?_⟩
          intro j hj hjk
          by_cases e : j = k
          · subst e; rw [HX.out]; exact hp'
          · exact HN.out j hj (by omega)
        case measure => simp [intOf]; omega
    · go_wp2
      go_ret
      have hkl : k = l.length := by omega
      exact ⟨ret_int (idxOf_none p l (fun j hj => HN.out j hj (by omega))).symm, hb⟩
def placedR (l : List (Int × Int)) : Bool := !l.any (fun p => !spotOk p.1 p.2)
theorem placed64_any (v : Value) (l : List (Int × Int)) (w : World) (hs : SlP w v l) : Calls Tryz.prog 49 #[v] w fun e w' => e = .returned (.bool (placedR l)) ∧ Below w.heap.size w w' := by
  have H1 := hid (index86_any v l w hs)
  have HA := hid (idxOf_any (fun p : Int × Int => !spotOk p.1 p.2) l)
  have HR := hid (show placedR l = !l.any (fun p => !spotOk p.1 p.2) from rfl)
  rw [← HA.out] at HR
  generalize idxOf (fun p : Int × Int => !spotOk p.1 p.2) l = i at *
  have H2 : Calls Tryz.prog 90 #[v, .func (.func 91) #[] #[]] w fun e w' => e = .returned (.bool (decide (0 ≤ i))) ∧ Below w.heap.size w w' := by
    go_enter Tryz.func90, Tryz.ntmps90
    go_wp2_with fail
    refine H1.out.mono ?_
    rintro e w' ⟨rfl, hb⟩
    go_wp2_with fail
    go_ret
    exact ⟨rfl, hb⟩
  have H2 := hid H2
  go_enter Tryz.func49, Tryz.ntmps49
  go_wp2_with fail
  refine H2.out.mono ?_
  rintro e w' ⟨rfl, hb⟩
  go_wp2_with fail
  go_ret
  exact ⟨ret_bool (by rw [HR.out]), hb⟩
/-- A grain's number out of its bounds. -/
theorem check74_any (x : Int) (w : World) : Calls Tryz.prog 86 #[.int .i64 x] w fun e w' => e = .returned (.bool (!inB x 0 1000)) ∧ w' = w := by
  have H1 := hid (fun W => within75_any x 0 1000 W)
  generalize inB x 0 1000 = b at *
  go_enter Tryz.func86, Tryz.ntmps86
  go_wp2_with fail
  refine (H1.out _).mono ?_
  rintro e w' ⟨rfl, rfl⟩
  go_wp2_with fail
  go_ret
  exact ⟨rfl, rfl⟩
theorem index26g_any (v : Value) (l : List Int) (w : World) (hs : SlI w v l) :
    Calls Tryz.prog 145 #[v, .func (.func 86) #[] #[]] w fun e w' => e = .returned (.int .i64 (idxOf (fun x => !inB x 0 1000) l)) ∧ w' = w := by
  obtain ⟨a, cap, rfl, hl, hc⟩ := hs.open
  clear hs
  have HF := hid (fun (x : Int) (W : World) => check74_any x W)
  have HC := hid hc
  clear hc
  obtain ⟨p, hpe⟩ : ∃ p : Int → Bool, (fun x => !inB x 0 1000) = p := ⟨_, rfl⟩
  have HPE := hid (show ∀ x : Int, (!inB x 0 1000) = p x from fun x => by rw [← hpe])
  rw [hpe]
  clear hpe
  go_enter Tryz.func145, Tryz.ntmps145
  go_wp2
  go_loopw [8] (fun i wr => ∃ k : Nat, k ≤ l.length ∧ i = .int .i64 k ∧ wr = w ∧ ∀ j (h : j < l.length), j < k → p l[j] = false) (fun i _ => l.length - (intOf i).toNat)
  case atStart => exact ⟨0, Nat.zero_le _, rfl, rfl, by omega⟩
  case round =>
    obtain ⟨k, hk, rfl, rfl, hno⟩ := hrel
    have HN := hid hno
    clear hno
    by_cases hlt : k < l.length
    · obtain ⟨b, off, rfl, hbl, hc⟩ := HC.out k hlt
      have hx0 := hc k hlt
      clear hc HC
      generalize hxe : l[k] = x at *
      have HX := hid hxe
      clear hxe
      have hcall := hid (HF.out x wr)
      rw [HPE.out] at hcall
      go_wp2_with fail
      refine hcall.out.mono ?_
      rintro e w' ⟨rfl, rfl⟩
      clear hcall
      by_cases hp : p x = true
      · go_wp2
        go_ret
        exact ⟨ret_int (idxOf_hit p l k hlt HN.out (by rw [HX.out]; exact hp)).symm, rfl⟩
      · have hp' : p x = false := by simpa using hp
        go_wp2
        go_roundw
        case rel =>
          refine ⟨k + 1, by omega, by go_num, (by first | rfl | trivial), ?_⟩
          intro j hj hjk
          by_cases e : j = k
          · subst e; rw [HX.out]; exact hp'
          · exact HN.out j hj (by omega)
        case measure => simp [intOf]; omega
    · go_wp2
      go_ret
      have hkl : k = l.length := by omega
      exact ⟨ret_int (idxOf_none p l (fun j hj => HN.out j hj (by omega))).symm, rfl⟩
theorem grains77_any (v : Value) (l : List Int) (w : World) (hs : SlI w v l) : Calls Tryz.prog 89 #[v, .func (.func 86) #[] #[]] w fun e w' => e = .returned (.bool (l.any fun x => !inB x 0 1000)) ∧ w' = w := by
  have H1 := hid (index26g_any v l w hs)
  have HA := hid (idxOf_any (fun x => !inB x 0 1000) l)
  rw [← HA.out]
  generalize idxOf (fun x => !inB x 0 1000) l = i at *
  go_enter Tryz.func89, Tryz.ntmps89
  go_wp2_with fail
  refine H1.out.mono ?_
  rintro e w' ⟨rfl, rfl⟩
  go_wp2_with fail
  go_ret
  exact ⟨rfl, rfl⟩
end Go.Proofs.YtolnhicngepnnaaGreat
