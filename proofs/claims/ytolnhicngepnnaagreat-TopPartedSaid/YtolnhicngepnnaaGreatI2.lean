/- ice: bounds, places, lists of grains. -/
import Derived.Test.YtolnhicngepnnaaGreatF11
namespace Go.Proofs.YtolnhicngepnnaaGreat
open Go.RowKit

theorem within75_any (n a b : Int) (w : World) : Calls Tryz.prog 87 #[.int .i64 n, .int .i64 a, .int .i64 b] w fun e w' => e = .returned (.bool (inB n a b)) ∧ w' = w := by
  go_enter Tryz.func87, Tryz.ntmps87
  go_wp2
  all_goals (go_ret; exact ⟨ret_bool (by simp [inB, *]; try omega), rfl⟩)
theorem within76_any (n a b : Int) (w : World) : Calls Tryz.prog 88 #[.int .i64 n, .int .i64 a, .int .i64 b] w fun e w' => e = .returned (.bool (inB n a b)) ∧ w' = w := by
  go_enter Tryz.func88, Tryz.ntmps88
  go_wp2
  all_goals (go_ret; exact ⟨ret_bool (by simp [inB, *]; try omega), rfl⟩)
/-- A slice of places. -/
def spotCells (p : Int × Int) : List Value := [.int .i64 p.1, .int .i64 p.2]
def SlP (w : World) (v : Value) (l : List (Int × Int)) : Prop := SlV w v l.length (l.flatMap spotCells)
theorem SlP.below {w w' : World} {v : Value} {l : List (Int × Int)} (h : SlP w v l) (hb : Below w.heap.size w w') : SlP w' v l := SlV.below h hb
theorem spot_cells_get : ∀ (l : List (Int × Int)) (j : Nat) (h : j < l.length) (c : Nat) (_hc : c < 2), (l.flatMap spotCells)[j * 2 + c]? = (spotCells l[j])[c]?
  | x :: l, 0, _, c, hc => by
    simp only [List.flatMap_cons, Nat.zero_mul, Nat.zero_add, List.getElem_cons_zero]
    rw [List.getElem?_append_left (by simpa [spotCells] using hc)]
  | x :: l, j + 1, h, c, hc => by
    have := spot_cells_get l j (by simpa using h) c hc
    simp only [List.flatMap_cons, List.getElem_cons_succ]
    rw [List.getElem?_append_right (by simp [spotCells]; omega), ← this]
    congr 1
    simp [spotCells]; omega
theorem SlP.open {w : World} {v : Value} {l : List (Int × Int)} (h : SlP w v l) :
    ∃ a cap, v = .slice a l.length cap ∧ l.length ≤ 140737488351232 ∧ ∀ k, k < l.length → ∃ b off, a = some ⟨b, off, none⟩ ∧ b < w.heap.size ∧
      ∀ j (h : j < l.length), w.cell? ⟨b, off + j * 2, none⟩ = some (.int .i64 l[j].1) ∧ w.cell? ⟨b, off + j * 2 + 1, none⟩ = some (.int .i64 l[j].2) := by
  obtain ⟨a, cap, rfl, hn, hc⟩ := h
  refine ⟨a, cap, rfl, hn, fun k hk => ?_⟩
  rcases hc with hc | ⟨b, off, rfl, hlt, hc⟩
  · omega
  · refine ⟨b, off, rfl, hlt, fun j hj => ?_⟩
    have key : ∀ c (hc4 : c < 2) u, (spotCells l[j])[c]? = some u → w.cell? ⟨b, off + (j * 2 + c), none⟩ = some u := by
      intro c hc4 u hu
      rw [← spot_cells_get l j hj c hc4] at hu
      obtain ⟨h2, h3⟩ := List.getElem?_eq_some_iff.1 hu
      rw [hc _ h2, h3]
    exact ⟨key 0 (by omega) _ rfl, key 1 (by omega) _ rfl⟩
theorem new_SlP (w : World) (x y : Int) (t : TypeId) : SlP (w.alloc (.cells #[.int .i64 x, .int .i64 y] t)) (.slice (some ⟨w.heap.size, 0, none⟩) 1 1) [(x, y)] := by
  refine ⟨_, _, rfl, by simp, .inr ⟨w.heap.size, 0, rfl, by simp, fun i hi => ?_⟩⟩
  rw [World.cell?_alloc_new]
  have hi2 : i < 2 := by simpa [spotCells] using hi
  rcases (show i = 0 ∨ i = 1 by omega) with rfl | rfl <;> rfl
theorem placed79_any (x y : Int) (w : World) : Calls Tryz.prog 91 #[.agg #[.int .i64 x, .int .i64 y]] w fun e w' => e = .returned (.bool (!spotOk x y)) ∧ Below w.heap.size w w' := by
  have H := hid (show spotOk x y = (inB x (-6553600000) 6553600000 && inB y (-6553600000) 6553600000) from rfl)
  have H1 := hid (fun W => within76_any x (-6553600000) 6553600000 W)
  have H2 := hid (fun W => within76_any y (-6553600000) 6553600000 W)
  generalize inB x (-6553600000) 6553600000 = b1 at *
  generalize inB y (-6553600000) 6553600000 = b2 at *
  go_enter Tryz.func91, Tryz.ntmps91
  cases b1
  · go_wp2_with fail
    refine (H1.out _).mono ?_
    rintro e w' ⟨rfl, rfl⟩
    go_wp2_with fail
    go_ret
    exact ⟨by rw [H.out]; rfl, (Below.refl _ _).alloc (Nat.le_refl _) _⟩
  · go_wp2_with fail
    refine (H1.out _).mono ?_
    rintro e w' ⟨rfl, rfl⟩
    go_wp2_with fail
    refine (H2.out _).mono ?_
    rintro e w' ⟨rfl, rfl⟩
    go_wp2_with fail
    go_ret
    exact ⟨by rw [H.out]; rfl, (Below.refl _ _).alloc (Nat.le_refl _) _⟩
set_option maxHeartbeats 1000000 in
theorem index86_any (v : Value) (l : List (Int × Int)) (w : World) (hs : SlP w v l) :
    Calls Tryz.prog 146 #[v, .func (.func 91) #[] #[]] w fun e w' => e = .returned (.int .i64 (idxOf (fun p => !spotOk p.1 p.2) l)) ∧ Below w.heap.size w w' := by
  obtain ⟨a, cap, rfl, hl, hc⟩ := hs.open
  clear hs
  have HF := hid (fun (x y : Int) (W : World) => placed79_any x y W)
  have HC := hid hc
  clear hc
  obtain ⟨p, hpe⟩ : ∃ p : Int × Int → Bool, (fun q => !spotOk q.1 q.2) = p := ⟨_, rfl⟩
  have HPE := hid (show ∀ x y : Int, (!spotOk x y) = p (x, y) from fun x y => by rw [← hpe])
  rw [hpe]
  clear hpe
  go_enter Tryz.func146, Tryz.ntmps146
  go_wp2
  go_loopw [8] (fun i wr => ∃ k : Nat, k ≤ l.length ∧ i = .int .i64 k ∧ Below w.heap.size w wr ∧ ∀ j (h : j < l.length), j < k → p l[j] = false) (fun i _ => l.length - (intOf i).toNat)
  case atStart => exact ⟨0, Nat.zero_le _, rfl, Below.refl _ _, by omega⟩
  case round =>
    obtain ⟨k, hk, rfl, hb, hno⟩ := hrel
    have HN := hid hno
    clear hno
    by_cases hlt : k < l.length
    · obtain ⟨b, off, rfl, hbl, hc⟩ := HC.out k hlt
      have hx0 := (hb.cell (p := ⟨b, off + k * 2, none⟩) hbl).trans (hc k hlt).1
      have hx1 := (hb.cell (p := ⟨b, off + k * 2 + 1, none⟩) hbl).trans (hc k hlt).2
      clear hc HC
      generalize hxe : l[k] = x at *
      have HX := hid hxe
      clear hxe
      obtain ⟨x1, x2⟩ := x
      dsimp only at hx0 hx1
      have hcall := hid (HF.out x1 x2 wr)
      rw [HPE.out] at hcall
      go_wp2_with fail
      refine hcall.out.mono ?_
      rintro e w' ⟨rfl, hb2⟩
      clear hcall
      by_cases hp : p (x1, x2) = true
      · go_wp2
        go_ret
        exact ⟨ret_int (idxOf_hit p l k hlt HN.out (by rw [HX.out]; exact hp)).symm, hb.trans (hb2.mono hb.size)⟩
      · have hp' : p (x1, x2) = false := by simpa using hp
        go_wp2
        go_roundw
        case rel =>
          refine ⟨k + 1, by omega, by go_num, hb.trans (hb2.mono hb.size), ?_⟩
          intro j hj hjk
          by_cases e : j = k
          · subst e; rw [HX.out]; exact hp'
          · exact HN.out j hj (by omega)
        case measure => simp [intOf]; omega
    · go_wp2
      go_ret
      have hkl : k = l.length := by omega
      exact ⟨ret_int (idxOf_none p l (fun j hj => HN.out j hj (by omega))).symm, hb⟩
def placedR (l : List (Int × Int)) : Bool := !l.any (fun p => !spotOk p.1 p.2)
theorem placed64_any (v : Value) (l : List (Int × Int)) (w : World) (hs : SlP w v l) : Calls Tryz.prog 49 #[v] w fun e w' => e = .returned (.bool (placedR l)) ∧ Below w.heap.size w w' := by
  have H1 := hid (index86_any v l w hs)
  have HA := hid (idxOf_any (fun p : Int × Int => !spotOk p.1 p.2) l)
  have HR := hid (show placedR l = !l.any (fun p => !spotOk p.1 p.2) from rfl)
  rw [← HA.out] at HR
  generalize idxOf (fun p : Int × Int => !spotOk p.1 p.2) l = i at *
  have H2 : Calls Tryz.prog 90 #[v, .func (.func 91) #[] #[]] w fun e w' => e = .returned (.bool (decide (0 ≤ i))) ∧ Below w.heap.size w w' := by
    go_enter Tryz.func90, Tryz.ntmps90
    go_wp2_with fail
    refine H1.out.mono ?_
    rintro e w' ⟨rfl, hb⟩
    go_wp2_with fail
    go_ret
    exact ⟨rfl, hb⟩
  have H2 := hid H2
  go_enter Tryz.func49, Tryz.ntmps49
  go_wp2_with fail
  refine H2.out.mono ?_
  rintro e w' ⟨rfl, hb⟩
  go_wp2_with fail
  go_ret
  exact ⟨ret_bool (by rw [HR.out]), hb⟩
/-- A grain's number out of its bounds. -/
theorem check74_any (x : Int) (w : World) : Calls Tryz.prog 86 #[.int .i64 x] w fun e w' => e = .returned (.bool (!inB x 0 1000)) ∧ w' = w := by
  have H1 := hid (fun W => within75_any x 0 1000 W)
  generalize inB x 0 1000 = b at *
  go_enter Tryz.func86, Tryz.ntmps86
  go_wp2_with fail
  refine (H1.out _).mono ?_
  rintro e w' ⟨rfl, rfl⟩
  go_wp2_with fail
  go_ret
  exact ⟨rfl, rfl⟩
theorem index26g_any (v : Value) (l : List Int) (w : World) (hs : SlI w v l) :
    Calls Tryz.prog 145 #[v, .func (.func 86) #[] #[]] w fun e w' => e = .returned (.int .i64 (idxOf (fun x => !inB x 0 1000) l)) ∧ w' = w := by
  obtain ⟨a, cap, rfl, hl, hc⟩ := hs.open
  clear hs
  have HF := hid (fun (x : Int) (W : World) => check74_any x W)
  have HC := hid hc
  clear hc
  obtain ⟨p, hpe⟩ : ∃ p : Int → Bool, (fun x => !inB x 0 1000) = p := ⟨_, rfl⟩
  have HPE := hid (show ∀ x : Int, (!inB x 0 1000) = p x from fun x => by rw [← hpe])
  rw [hpe]
  clear hpe
  go_enter Tryz.func145, Tryz.ntmps145
  go_wp2
  go_loopw [8] (fun i wr => ∃ k : Nat, k ≤ l.length ∧ i = .int .i64 k ∧ wr = w ∧ ∀ j (h : j < l.length), j < k → p l[j] = false) (fun i _ => l.length - (intOf i).toNat)
  case atStart => exact ⟨0, Nat.zero_le _, rfl, rfl, by omega⟩
  case round =>
    obtain ⟨k, hk, rfl, rfl, hno⟩ := hrel
    have HN := hid hno
    clear hno
    by_cases hlt : k < l.length
    · obtain ⟨b, off, rfl, hbl, hc⟩ := HC.out k hlt
      have hx0 := hc k hlt
      clear hc HC
      generalize hxe : l[k] = x at *
      have HX := hid hxe
      clear hxe
      have hcall := hid (HF.out x wr)
      rw [HPE.out] at hcall
      go_wp2_with fail
      refine hcall.out.mono ?_
      rintro e w' ⟨rfl, rfl⟩
      clear hcall
      by_cases hp : p x = true
      · go_wp2
        go_ret
        exact ⟨ret_int (idxOf_hit p l k hlt HN.out (by rw [HX.out]; exact hp)).symm, rfl⟩
      · have hp' : p x = false := by simpa using hp
        go_wp2
        go_roundw
        case rel =>
          refine ⟨k + 1, by omega, by go_num, (by first | rfl | trivial), ?_⟩
          intro j hj hjk
          by_cases e : j = k
          · subst e; rw [HX.out]; exact hp'
          · exact HN.out j hj (by omega)
        case measure => simp [intOf]; omega
    · go_wp2
      go_ret
      have hkl : k = l.length := by omega
      exact ⟨ret_int (idxOf_none p l (fun j hj => HN.out j hj (by omega))).symm, rfl⟩
theorem grains77_any (v : Value) (l : List Int) (w : World) (hs : SlI w v l) : Calls Tryz.prog 89 #[v, .func (.func 86) #[] #[]] w fun e w' => e = .returned (.bool (l.any fun x => !inB x 0 1000)) ∧ w' = w := by
  have H1 := hid (index26g_any v l w hs)
  have HA := hid (idxOf_any (fun x => !inB x 0 1000) l)
  rw [← HA.out]
  generalize idxOf (fun x => !inB x 0 1000) l = i at *
  go_enter Tryz.func89, Tryz.ntmps89
  go_wp2_with fail
  refine H1.out.mono ?_
  rintro e w' ⟨rfl, rfl⟩
  go_wp2_with fail
  go_ret
  exact ⟨rfl, rfl⟩
end Go.Proofs.YtolnhicngepnnaaGreat
/- ice.Check, ice.CheckGrain, ice.right. -/
namespace Go.Proofs.YtolnhicngepnnaaGreat
open Go.RowKit

/-- An ice's numbers; the two lists of grains lie in slices. -/
abbrev iceV (x y sd W H : Int) (pv qv : Value) : Value := .agg #[.int .i64 x, .int .i64 y, .int .i64 sd, .int .i64 W, .int .i64 H, pv, qv]
def okG (l : List Int) : Bool := !l.any fun x => !inB x 0 1000
def iceOk (x y sd W H : Int) (pl ql : List Int) : Bool := placedR [(x, y)] && (inB sd 1 6553600000 && (inB W 1 256 && (inB H 1 256 && (((pl.length : Int) == W * H) && (((ql.length : Int) == W * H) && (okG pl && okG ql))))))
set_option maxRecDepth 100000 in
set_option maxHeartbeats 2000000 in
theorem check62_any (x y sd W H : Int) (pv qv : Value) (pl ql : List Int) (w : World) (hp : SlI w pv pl) (hq : SlI w qv ql) :
    Calls Tryz.prog 47 #[iceV x y sd W H pv qv] w fun e w' => e = .returned (.int .i64 (if iceOk x y sd W H pl ql then 0 else 2)) ∧ Below w.heap.size w w' := by
  obtain ⟨pa, pc, rfl, hpl, -⟩ := hp.open
  obtain ⟨qa, qc, rfl, hql, -⟩ := hq.open
  have HPL := hid (fun W hb => placed64_any (.slice (some ⟨w.heap.size + 1, 0, none⟩) 1 1) [(x, y)] W hb)
  have HSD := hid (fun U => within76_any sd 1 6553600000 U)
  have HWW := hid (fun U => within75_any W 1 256 U)
  have HWH := hid (fun U => within75_any H 1 256 U)
  have HPG := hid (fun U hb => grains77_any _ pl U (SlI.below hp hb))
  have HQG := hid (fun U hb => grains77_any _ ql U (SlI.below hq hb))
  have HOK := hid (show iceOk x y sd W H pl ql = (placedR [(x, y)] && (inB sd 1 6553600000 && (inB W 1 256 && (inB H 1 256 && (((pl.length : Int) == W * H) && (((ql.length : Int) == W * H) && ((!pl.any fun x => !inB x 0 1000) && (!ql.any fun x => !inB x 0 1000)))))))) from rfl)
  have HBW := hid (fun h : inB W 1 256 = true => (by simpa [inB] using h : 1 ≤ W ∧ W ≤ 256))
  have HBH := hid (fun h : inB H 1 256 = true => (by simpa [inB] using h : 1 ≤ H ∧ H ≤ 256))
  have HB1 := hid ((Below.refl w.heap.size w).alloc (Nat.le_refl _) (.cells #[.int .i64 x, .int .i64 y, .int .i64 sd, .int .i64 W, .int .i64 H, .slice pa pl.length pc, .slice qa ql.length qc] 31))
  have hz : (w.alloc (.cells #[.int .i64 x, .int .i64 y, .int .i64 sd, .int .i64 W, .int .i64 H, .slice pa pl.length pc, .slice qa ql.length qc] 31)).heap.size = w.heap.size + 1 := by simp
  have hN := heap_alloc_new w (.cells #[.int .i64 x, .int .i64 y, .int .i64 sd, .int .i64 W, .int .i64 H, .slice pa pl.length pc, .slice qa ql.length qc] 31)
  obtain ⟨W1, hW1⟩ : ∃ W1, w.alloc (.cells #[.int .i64 x, .int .i64 y, .int .i64 sd, .int .i64 W, .int .i64 H, .slice pa pl.length pc, .slice qa ql.length qc] 31) = W1 := ⟨_, rfl⟩
  rw [hW1] at HB1 hz hN
  have HC := hid (show ∀ U, Below W1.heap.size W1 U → U.heap[w.heap.size]? = some (.cells #[.int .i64 x, .int .i64 y, .int .i64 sd, .int .i64 W, .int .i64 H, .slice pa pl.length pc, .slice qa ql.length qc] 31 (0, 0)) from fun U hb => (hb.block _ (by omega)).trans hN)
  have HW := hid hW1
  have HSP := hid (new_SlP W1 x y 28)
  clear hp hq hN hW1
  generalize (pl.any fun x => !inB x 0 1000) = g1 at *
  generalize (ql.any fun x => !inB x 0 1000) = g2 at *
  generalize placedR [(x, y)] = b1 at *
  generalize inB sd 1 6553600000 = b2 at *
  generalize inB W 1 256 = b3 at *
  generalize inB H 1 256 = b4 at *
  generalize iceOk x y sd W H pl ql = ok at *
  obtain ⟨ans, hans⟩ : ∃ ans : Int, (if ok = true then 0 else 2) = ans := ⟨_, rfl⟩
  rw [hans]
  have HAN := hid hans
  clear hans
  go_enter Tryz.func47, Tryz.ntmps47
  go_wp2_with fail
  rw [HW.out]
  refine (HPL.out _ (by have := HSP.out; rwa [hz] at this)).mono ?_
  rintro e W2 ⟨rfl, hb2⟩
  have hb2' : Below W1.heap.size W1 W2 := btrans ((Below.refl _ W1).alloc (Nat.le_refl _) _) (by simp) hb2
  have hblk := HC.out _ hb2'
  have HB2 := hid (btrans HB1.out (by omega) hb2')
  clear hb2 hb2' HC HB1 HW HSP HPL
  have q0 : W2.cell? ⟨w.heap.size, 2, none⟩ = some (.int .i64 sd) := by simp [World.cell?, hblk]
  have q1 : W2.cell? ⟨w.heap.size, 3, none⟩ = some (.int .i64 W) := by simp [World.cell?, hblk]
  have q2 : W2.cell? ⟨w.heap.size, 4, none⟩ = some (.int .i64 H) := by simp [World.cell?, hblk]
  have q3 : W2.cell? ⟨w.heap.size, 5, none⟩ = some (.slice pa pl.length pc) := by simp [World.cell?, hblk]
  have q4 : W2.cell? ⟨w.heap.size, 6, none⟩ = some (.slice qa ql.length qc) := by simp [World.cell?, hblk]
  clear hblk
  cases b1 with
  | false =>
    go_wp2_with fail
    go_ret
    exact ⟨by rw [← HAN.out, HOK.out]; rfl, HB2.out⟩
  | true =>
  go_wp2_with fail
  refine (HSD.out _).mono ?_
  rintro e W3 ⟨rfl, rfl⟩
  cases b2 with
  | false =>
    go_wp2_with fail
    go_ret
    exact ⟨by rw [← HAN.out, HOK.out]; rfl, HB2.out⟩
  | true =>
  go_wp2_with fail
  refine (HWW.out _).mono ?_
  rintro e W4 ⟨rfl, rfl⟩
  cases b3 with
  | false =>
    go_wp2_with fail
    go_ret
    exact ⟨by rw [← HAN.out, HOK.out]; rfl, HB2.out⟩
  | true =>
  go_wp2_with fail
  refine (HWH.out _).mono ?_
  rintro e W5 ⟨rfl, rfl⟩
  cases b4 with
  | false =>
    go_wp2_with fail
    go_ret
    exact ⟨by rw [← HAN.out, HOK.out]; rfl, HB2.out⟩
  | true =>
  obtain ⟨w1, w2⟩ : 1 ≤ W ∧ W ≤ 256 := by simpa using HBW.out
  obtain ⟨h1, h2⟩ : 1 ≤ H ∧ H ≤ 256 := by simpa using HBH.out
  have hm1 : 0 ≤ W * H := Int.mul_nonneg (by omega) (by omega)
  have hm2 : W * H ≤ 256 * 256 := Int.mul_le_mul w2 h2 (by omega) (by omega)
  by_cases h5 : (pl.length : Int) = W * H
  case neg =>
    have e5 : ((pl.length : Int) == W * H) = false := by simp [h5]
    rw [e5] at HOK
    go_wp2_with fail
    go_ret
    exact ⟨by rw [← HAN.out, HOK.out]; rfl, HB2.out⟩
  case pos =>
  have e5 : ((pl.length : Int) == W * H) = true := by simp [h5]
  rw [e5] at HOK
  by_cases h6 : (ql.length : Int) = W * H
  case neg =>
    have e6 : ((ql.length : Int) == W * H) = false := by simp [h6]
    rw [e6] at HOK
    go_wp2_with fail
    go_ret
    exact ⟨by rw [← HAN.out, HOK.out]; rfl, HB2.out⟩
  case pos =>
  have e6 : ((ql.length : Int) == W * H) = true := by simp [h6]
  rw [e6] at HOK
  go_wp2_with fail
  refine (HPG.out _ HB2.out).mono ?_
  rintro e W6 ⟨rfl, rfl⟩
  cases g1 with
  | true =>
    go_wp2_with fail
    go_ret
    exact ⟨by rw [← HAN.out, HOK.out]; rfl, HB2.out⟩
  | false =>
  go_wp2_with fail
  refine (HQG.out _ HB2.out).mono ?_
  rintro e W6 ⟨rfl, rfl⟩
  cases g2 with
  | true =>
    go_wp2_with fail
    go_ret
    exact ⟨by rw [← HAN.out, HOK.out]; rfl, HB2.out⟩
  | false =>
    go_wp2_with fail
    go_ret
    exact ⟨by rw [← HAN.out, HOK.out]; rfl, HB2.out⟩
def grainOk (fl kn a b c : Int) : Bool := inB kn 1 fl && (decide (fl ≤ 65536) && (inB a 0 1000 && (inB b 0 1000 && inB c 0 1000)))
abbrev grainV (fl kn a b c : Int) : Value := .agg #[.int .i64 fl, .int .i64 kn, .int .i64 a, .int .i64 b, .int .i64 c]
set_option maxRecDepth 100000 in
theorem grain63_any (fl kn a b c : Int) (w : World) : Calls Tryz.prog 48 #[grainV fl kn a b c] w fun e w' => e = .returned (.int .i64 (if grainOk fl kn a b c then 0 else 2)) ∧ Below w.heap.size w w' := by
  have H1 := hid (fun U => within76_any kn 1 fl U)
  have H2 := hid (fun U => within75_any a 0 1000 U)
  have H3 := hid (fun U => within75_any b 0 1000 U)
  have H4 := hid (fun U => within75_any c 0 1000 U)
  have HOK := hid (show grainOk fl kn a b c = (inB kn 1 fl && (decide (fl ≤ 65536) && (inB a 0 1000 && (inB b 0 1000 && inB c 0 1000)))) from rfl)
  have HB := hid ((Below.refl w.heap.size w).alloc (Nat.le_refl _) (.cells #[.int .i64 fl, .int .i64 kn, .int .i64 a, .int .i64 b, .int .i64 c] 24))
  generalize inB kn 1 fl = b1 at *
  generalize inB a 0 1000 = b2 at *
  generalize inB b 0 1000 = b3 at *
  generalize inB c 0 1000 = b4 at *
  generalize grainOk fl kn a b c = ok at *
  obtain ⟨ans, hans⟩ : ∃ ans : Int, (if ok = true then 0 else 2) = ans := ⟨_, rfl⟩
  rw [hans]
  have HAN := hid hans
  clear hans
  by_cases hf : fl ≤ 65536
  case neg =>
    have e1 : decide (fl ≤ 65536) = false := by simpa using hf
    rw [e1] at HOK
    have hf2 : 65536 < fl := by omega
    clear e1 hf
    cases b1
    all_goals
      go_enter Tryz.func48, Tryz.ntmps48
      go_wp2_with fail
      refine (H1.out _).mono ?_
      rintro e w' ⟨rfl, rfl⟩
      go_wp2_with fail
      go_ret
      exact ⟨by rw [← HAN.out, HOK.out]; rfl, HB.out⟩
  case pos =>
  have e1 : decide (fl ≤ 65536) = true := by simpa using hf
  rw [e1] at HOK
  have hf2 : ¬ 65536 < fl := by omega
  clear e1 hf
  go_enter Tryz.func48, Tryz.ntmps48
  go_wp2_with fail
  refine (H1.out _).mono ?_
  rintro e w' ⟨rfl, rfl⟩
  cases b1 with
  | false =>
    go_wp2_with fail
    go_ret
    exact ⟨by rw [← HAN.out, HOK.out]; rfl, HB.out⟩
  | true =>
  go_wp2_with fail
  refine (H2.out _).mono ?_
  rintro e w' ⟨rfl, rfl⟩
  cases b2 with
  | false =>
    go_wp2_with fail
    go_ret
    exact ⟨by rw [← HAN.out, HOK.out]; rfl, HB.out⟩
  | true =>
  go_wp2_with fail
  refine (H3.out _).mono ?_
  rintro e w' ⟨rfl, rfl⟩
  cases b3 with
  | false =>
    go_wp2_with fail
    go_ret
    exact ⟨by rw [← HAN.out, HOK.out]; rfl, HB.out⟩
  | true =>
  go_wp2_with fail
  refine (H4.out _).mono ?_
  rintro e w' ⟨rfl, rfl⟩
  cases b4
  all_goals
    go_wp2_with fail
    go_ret
    exact ⟨by rw [← HAN.out, HOK.out]; rfl, HB.out⟩
def rightR (x y sd W H : Int) (pl ql : List Int) (fl kn a b c : Int) (l : List (Int × Int)) : Bool := iceOk x y sd W H pl ql && (grainOk fl kn a b c && placedR l)
set_option maxRecDepth 100000 in
theorem right36_any (x y sd W H : Int) (pv qv : Value) (pl ql : List Int) (fl kn a b c : Int) (v : Value) (l : List (Int × Int)) (w : World) (hp : SlI w pv pl) (hq : SlI w qv ql) (hl : SlP w v l) :
    Calls Tryz.prog 21 #[iceV x y sd W H pv qv, grainV fl kn a b c, v] w fun e w' => e = .returned (.bool (rightR x y sd W H pl ql fl kn a b c l)) ∧ Below w.heap.size w w' := by
  have H1 := hid (fun U hb => check62_any x y sd W H pv qv pl ql U (SlI.below hp hb) (SlI.below hq hb))
  have H2 := hid (fun U => grain63_any fl kn a b c U)
  have H3 := hid (fun U hb => placed64_any v l U (SlP.below hl hb))
  have HOK := hid (show rightR x y sd W H pl ql fl kn a b c l = (iceOk x y sd W H pl ql && (grainOk fl kn a b c && placedR l)) from rfl)
  have hz : ((w.alloc (.cells #[.int .i64 x, .int .i64 y, .int .i64 sd, .int .i64 W, .int .i64 H, pv, qv] 31)).alloc (.cells #[.int .i64 fl, .int .i64 kn, .int .i64 a, .int .i64 b, .int .i64 c] 24)).heap.size = w.heap.size + 2 := by simp
  have hB : Below w.heap.size w ((w.alloc (.cells #[.int .i64 x, .int .i64 y, .int .i64 sd, .int .i64 W, .int .i64 H, pv, qv] 31)).alloc (.cells #[.int .i64 fl, .int .i64 kn, .int .i64 a, .int .i64 b, .int .i64 c] 24)) := ((Below.refl w.heap.size w).alloc (Nat.le_refl _) _).alloc (by simp) _
  have hN : ((w.alloc (.cells #[.int .i64 x, .int .i64 y, .int .i64 sd, .int .i64 W, .int .i64 H, pv, qv] 31)).alloc (.cells #[.int .i64 fl, .int .i64 kn, .int .i64 a, .int .i64 b, .int .i64 c] 24)).heap[w.heap.size + 1]? = some (.cells #[.int .i64 fl, .int .i64 kn, .int .i64 a, .int .i64 b, .int .i64 c] 24 (0, 0)) := by
    simpa using heap_alloc_new (w.alloc (.cells #[.int .i64 x, .int .i64 y, .int .i64 sd, .int .i64 W, .int .i64 H, pv, qv] 31)) (.cells #[.int .i64 fl, .int .i64 kn, .int .i64 a, .int .i64 b, .int .i64 c] 24)
  obtain ⟨W1, hW1⟩ : ∃ W1, (w.alloc (.cells #[.int .i64 x, .int .i64 y, .int .i64 sd, .int .i64 W, .int .i64 H, pv, qv] 31)).alloc (.cells #[.int .i64 fl, .int .i64 kn, .int .i64 a, .int .i64 b, .int .i64 c] 24) = W1 := ⟨_, rfl⟩
  rw [hW1] at hz hB hN
  have HC := hid (show ∀ U, Below W1.heap.size W1 U → U.heap[w.heap.size + 1]? = some (.cells #[.int .i64 fl, .int .i64 kn, .int .i64 a, .int .i64 b, .int .i64 c] 24 (0, 0)) from fun U hb => (hb.block _ (by omega)).trans hN)
  have HW := hid hW1
  have HB := hid hB
  obtain ⟨pa, pc, rfl, -, -⟩ := hp.open
  obtain ⟨qa, qc, rfl, -, -⟩ := hq.open
  clear hp hq hl hN hB hW1
  generalize iceOk x y sd W H pl ql = b1 at *
  generalize grainOk fl kn a b c = b2 at *
  generalize placedR l = b3 at *
  generalize rightR x y sd W H pl ql fl kn a b c l = ok at *
  obtain ⟨a1, ha1⟩ : ∃ ans : Int, (if b1 = true then 0 else 2) = ans := ⟨_, rfl⟩
  obtain ⟨a2, ha2⟩ : ∃ ans : Int, (if b2 = true then 0 else 2) = ans := ⟨_, rfl⟩
  rw [ha1] at H1
  rw [ha2] at H2
  have HA1 := hid ha1
  have HA2 := hid ha2
  clear ha1 ha2
  go_enter Tryz.func21, Tryz.ntmps21
  go_wp2_with fail
  rw [HW.out]
  refine (H1.out _ HB.out).mono ?_
  rintro e W2 ⟨rfl, hb2⟩
  have hblk := HC.out _ hb2
  have HB2 := hid (btrans HB.out (by omega) hb2)
  have q0 : W2.cell? ⟨w.heap.size + 1, 0, none⟩ = some (.int .i64 fl) := by simp [World.cell?, hblk]
  have q1 : W2.cell? ⟨w.heap.size + 1, 1, none⟩ = some (.int .i64 kn) := by simp [World.cell?, hblk]
  have q2 : W2.cell? ⟨w.heap.size + 1, 2, none⟩ = some (.int .i64 a) := by simp [World.cell?, hblk]
  have q3 : W2.cell? ⟨w.heap.size + 1, 3, none⟩ = some (.int .i64 b) := by simp [World.cell?, hblk]
  have q4 : W2.cell? ⟨w.heap.size + 1, 4, none⟩ = some (.int .i64 c) := by simp [World.cell?, hblk]
  clear hblk HC hb2 HB HW
  cases b1 with
  | false =>
    obtain rfl : (2 : Int) = a1 := HA1.out
    go_wp2_with fail
    go_ret
    exact ⟨by rw [HOK.out]; rfl, HB2.out⟩
  | true =>
  obtain rfl : (0 : Int) = a1 := HA1.out
  go_wp2_with fail
  refine (H2.out _).mono ?_
  rintro e W3 ⟨rfl, hb3⟩
  have HB3 := hid (HB2.out.trans (hb3.mono HB2.out.size))
  clear hb3 HB2
  cases b2 with
  | false =>
    obtain rfl : (2 : Int) = a2 := HA2.out
    go_wp2_with fail
    go_ret
    exact ⟨by rw [HOK.out]; rfl, HB3.out⟩
  | true =>
  obtain rfl : (0 : Int) = a2 := HA2.out
  go_wp2_with fail
  refine (H3.out _ HB3.out).mono ?_
  rintro e W4 ⟨rfl, hb4⟩
  go_wp2_with fail
  go_ret
  exact ⟨by rw [HOK.out]; rfl, HB3.out.trans (hb4.mono HB3.out.size)⟩
end Go.Proofs.YtolnhicngepnnaaGreat
