/- contact.meet, from the contracts of what it calls. -/
import Derived.Test.YtolnhicngepnnaaGreatC3
import Derived.Test.YtolnhicngepnnaaGreatW7
namespace Go.Proofs.YtolnhicngepnnaaGreat
open Go.RowKit

/-- A body lies at an offset of some cells. -/
def RowB (cur : Array Value) (o : Nat) (b : BodyD) : Prop := ∀ c, c < 8 → cur[o + c]? = b.arr[c]?
theorem RowB.lt {cur : Array Value} {o : Nat} {b : BodyD} (h : RowB cur o b) : o + 7 < cur.size := by
  have := h 7 (by omega)
  exact (Array.getElem?_eq_some_iff.1 (this.trans rfl)).1
/-- New speed of a row. -/
def setV (cur : Array Value) (o : Nat) (vx vy : Int) : Array Value := (cur.setIfInBounds (o + 4) (.int .i64 vx)).setIfInBounds (o + 5) (.int .i64 vy)
theorem RowB.same {cur : Array Value} {o : Nat} {b : BodyD} (h : RowB cur o b) (vx vy : Int) : RowB (setV cur o vx vy) o { b with m := { b.m with vx := vx, vy := vy } } := by
  have hl := h.lt
  intro c hc
  have h0 := h c hc
  obtain ⟨team, n, ⟨x, y, ux, uy, sp⟩, out⟩ := b
  simp only [setV, Array.getElem?_setIfInBounds, Array.size_setIfInBounds]
  have : c = 0 ∨ c = 1 ∨ c = 2 ∨ c = 3 ∨ c = 4 ∨ c = 5 ∨ c = 6 ∨ c = 7 := by omega
  rcases this with rfl | rfl | rfl | rfl | rfl | rfl | rfl | rfl
  all_goals
    first
      | (rw [if_neg (by omega), if_neg (by omega)]; exact h0)
      | (rw [if_neg (by omega), if_pos (by omega), if_pos (by omega)]; rfl)
      | (rw [if_pos (by omega), if_pos (by omega)]; rfl)
theorem setV_oth {cur : Array Value} {o i : Nat} (vx vy : Int) (h : i ≠ o + 4) (h2 : i ≠ o + 5) : (setV cur o vx vy)[i]? = cur[i]? := by
  simp only [setV, Array.getElem?_setIfInBounds, Array.size_setIfInBounds]
  rw [if_neg (by omega), if_neg (by omega)]
theorem RowB.other {cur : Array Value} {o p : Nat} {b : BodyD} (h : RowB cur o b) (hd : o + 8 ≤ p ∨ p + 8 ≤ o) (vx vy : Int) : RowB (setV cur p vx vy) o b := by
  intro c hc
  rw [setV_oth vx vy (by omega) (by omega)]
  exact h c hc
/-- How a meeting ends. -/
def MeetP (j cx cy ex ey : Int) (v : Bool) (g oa ob : Nat) (cur : Array Value) (w : World) (e : Ending) (w' : World) : Prop :=
  (j ≤ 0 ∧ e = .returned (.bool false) ∧ Below w.heap.size w w') ∨
  (0 < j ∧ w'.heap[g]? = some (.cells (setV (setV cur oa cx cy) ob ex ey) 174 (0, 0)) ∧ Ch (fun k => k = g) w w' ∧ if v = true then e = .returned (.bool true) else e = .panicked (cmisfit 4))
theorem put_s7 {w : World} {b k i j : Nat} {x y : Int} {u v : Value} (h : k ≠ b) (hs : w.heap[k]? = some (.cells #[.int .i64 x, .int .i64 y] 28 (0, 0)) ∧ w.cell? ⟨k, 0, none⟩ = some (.int .i64 x) ∧ w.cell? ⟨k, 1, none⟩ = some (.int .i64 y)) :
    ((w.setCell ⟨b, i, none⟩ u).setCell ⟨b, j, none⟩ v).heap[k]? = some (.cells #[.int .i64 x, .int .i64 y] 28 (0, 0)) ∧ ((w.setCell ⟨b, i, none⟩ u).setCell ⟨b, j, none⟩ v).cell? ⟨k, 0, none⟩ = some (.int .i64 x) ∧ ((w.setCell ⟨b, i, none⟩ u).setCell ⟨b, j, none⟩ v).cell? ⟨k, 1, none⟩ = some (.int .i64 y) := by
  have h1 := (put_oth (w := w) i j u v h).trans hs.1
  exact ⟨h1, cellN h1 rfl, cellN h1 rfl⟩
theorem setV_heap {w : World} {g o : Nat} {cur : Array Value} {t : TypeId} (h : w.heap[g]? = some (.cells cur t (0, 0))) (vx vy : Int) :
    ((w.setCell ⟨g, o + 4, none⟩ (.int .i64 vx)).setCell ⟨g, o + 5, none⟩ (.int .i64 vy)).heap[g]? = some (.cells (setV cur o vx vy) t (0, 0)) := by
  have h1 := heap_setCell_same _ g (o + 4) _ _ (.int .i64 vx) h
  exact heap_setCell_same _ g (o + 5) _ _ (.int .i64 vy) h1
theorem set2_ch {w W : World} {b i j : Nat} {S : Nat → Prop} (hb : S b) (u v : Value) (h : Ch S w W) : Ch S w ((W.setCell ⟨b, i, none⟩ u).setCell ⟨b, j, none⟩ v) := by
  refine ⟨(h.1.setCell (p := ⟨b, i, none⟩) (Nat.zero_le _) u).setCell (p := ⟨b, j, none⟩) (Nat.zero_le _) v, fun k hk hn => ?_⟩
  rw [put_oth i j u v (show k ≠ b from fun e => hn (by rw [e]; exact hb))]
  exact h.2 k hk hn
set_option maxRecDepth 100000 in
set_option maxHeartbeats 16000000 in
theorem meet82_core (at' an ax ay avx avy asp : Int) (ao : Bool) (bt bn bx by1 bvx bvy bsp : Int) (bo : Bool) (dx dy ux uy sx sy j el el2 z px py cx cy ex ey : Int) (va vb : Bool)
    (hel : IntKind.i64.wrap (1000 + el) = el2) (g oa ob : Nat) (cur : Array Value) (w : World) (hg : w.heap[g]? = some (.cells cur 174 (0, 0)))
    (ra : RowB cur oa ⟨at', an, ⟨ax, ay, avx, avy, asp⟩, ao⟩) (rb : RowB cur ob ⟨bt, bn, ⟨bx, by1, bvx, bvy, bsp⟩, bo⟩) (hd : oa + 8 ≤ ob ∨ ob + 8 ≤ oa)
    (h1 : ∀ W, Calls Tryz.prog 135 #[.agg #[.int .i64 bx, .int .i64 by1], .agg #[.int .i64 ax, .int .i64 ay]] W fun e w' => e = .returned (.tuple #[.agg #[.int .i64 dx, .int .i64 dy], .int .i64 0]) ∧ Below W.heap.size W w')
    (h2 : ∀ W, Calls Tryz.prog 138 #[.agg #[.int .i64 dx, .int .i64 dy]] W fun e w' => e = .returned (.tuple #[.agg #[.int .i64 ux, .int .i64 uy], .int .i64 0]) ∧ Below W.heap.size W w')
    (h3 : ∀ W, Calls Tryz.prog 135 #[.agg #[.int .i64 avx, .int .i64 avy], .agg #[.int .i64 bvx, .int .i64 bvy]] W fun e w' => e = .returned (.tuple #[.agg #[.int .i64 sx, .int .i64 sy], .int .i64 0]) ∧ Below W.heap.size W w')
    (h4 : ∀ W, Calls Tryz.prog 140 #[.agg #[.int .i64 sx, .int .i64 sy], .agg #[.int .i64 ux, .int .i64 uy], .int .i64 1] W fun e w' => e = .returned (.tuple #[.int .i64 j, .int .i64 0]) ∧ Below W.heap.size W w')
    (h5 : 0 < j → ∀ W, Calls Tryz.prog 55 #[.int .i64 j, .int .i64 el2, .int .i64 2000, .int .i64 0] W fun e w' => e = .returned (.tuple #[.int .i64 z, .int .i64 0]) ∧ Below W.heap.size W w')
    (h6 : 0 < j → ∀ W, Calls Tryz.prog 141 #[.agg #[.int .i64 ux, .int .i64 uy], .int .i64 z, .int .i64 0] W fun e w' => e = .returned (.tuple #[.agg #[.int .i64 px, .int .i64 py], .int .i64 0]) ∧ Below W.heap.size W w')
    (h7 : 0 < j → ∀ W, Calls Tryz.prog 135 #[.agg #[.int .i64 avx, .int .i64 avy], .agg #[.int .i64 px, .int .i64 py]] W fun e w' => e = .returned (.tuple #[.agg #[.int .i64 cx, .int .i64 cy], .int .i64 0]) ∧ Below W.heap.size W w')
    (h8 : 0 < j → ∀ W, Calls Tryz.prog 142 #[.agg #[.int .i64 bvx, .int .i64 bvy], .agg #[.int .i64 px, .int .i64 py]] W fun e w' => e = .returned (.tuple #[.agg #[.int .i64 ex, .int .i64 ey], .int .i64 0]) ∧ Below W.heap.size W w')
    (h9 : ∀ W, Calls Tryz.prog 129 #[.agg #[.int .i64 at', .int .i64 an, .int .i64 ax, .int .i64 ay, .int .i64 cx, .int .i64 cy, .int .i64 asp, .bool ao]] W fun e w' => e = .returned (.bool va) ∧ Below W.heap.size W w')
    (h10 : ∀ W, Calls Tryz.prog 129 #[.agg #[.int .i64 bt, .int .i64 bn, .int .i64 bx, .int .i64 by1, .int .i64 ex, .int .i64 ey, .int .i64 bsp, .bool bo]] W fun e w' => e = .returned (.bool vb) ∧ Below W.heap.size W w') :
    Calls Tryz.prog 82 #[.pointer (some ⟨g, oa, none⟩), .pointer (some ⟨g, ob, none⟩), .int .i64 el] w fun e w' => MeetP j cx cy ex ey (va && vb) g oa ob cur w e w' := by
  have hmk := mkic 4
  have HM1 := hid h1
  have HU := hid h2
  have HM2 := hid h3
  have HDT := hid h4
  have HSC0 := hid h5
  have HT0 := hid h6
  have H7A0 := hid h7
  have H8A0 := hid h8
  have HVA := hid h9
  have HVB := hid h10
  have HD := hid (fun W => must137_ok dx dy W)
  have HUM := hid (fun W => must137_ok ux uy W)
  have HSM := hid (fun W => must137_ok sx sy W)
  have HPM := hid (fun W => must137_ok px py W)
  have H7M := hid (fun W => must137_ok cx cy W)
  have H8M := hid (fun W => must137_ok ex ey W)
  have HJM := hid (fun W => must139_ok j W)
  have HZM := hid (fun W => (show Calls Tryz.prog 139 #[.int .i64 z, .int .i64 0] W fun e w' => e = .returned (.int .i64 z) ∧ Below W.heap.size W w' from (must139_ok z W).mono fun e w' h => ⟨h.1, by rw [h.2]; exact Below.refl _ _⟩))
  clear h1 h2 h3 h4 h5 h6 h7 h8 h9 h10
  have HRA := hid ra
  have HRB := hid rb
  have HDJ := hid hd
  have HG0 := hid hg
  have ka4 : cur[oa + 4]? = some (.int .i64 avx) := ra 4 (by omega)
  have ka5 : cur[oa + 5]? = some (.int .i64 avy) := ra 5 (by omega)
  have HQ := hid (show ∀ W, Below w.heap.size w W → W.cell? ⟨g, oa + 2, none⟩ = some (.int .i64 ax) ∧ W.cell? ⟨g, oa + 3, none⟩ = some (.int .i64 ay) ∧ W.cell? ⟨g, oa + 4, none⟩ = some (.int .i64 avx) ∧ W.cell? ⟨g, oa + 5, none⟩ = some (.int .i64 avy) ∧ W.cell? ⟨g, ob + 2, none⟩ = some (.int .i64 bx) ∧ W.cell? ⟨g, ob + 3, none⟩ = some (.int .i64 by1) ∧ W.cell? ⟨g, ob + 4, none⟩ = some (.int .i64 bvx) ∧ W.cell? ⟨g, ob + 5, none⟩ = some (.int .i64 bvy) from fun W h => by
    have hx := carry hg h
    exact ⟨cellN hx (ra 2 (by omega)), cellN hx (ra 3 (by omega)), cellN hx (ra 4 (by omega)), cellN hx (ra 5 (by omega)), cellN hx (rb 2 (by omega)), cellN hx (rb 3 (by omega)), cellN hx (rb 4 (by omega)), cellN hx (rb 5 (by omega))⟩)
  have HGL := hid (show g < w.heap.size from (Array.getElem?_eq_some_iff.1 hg).1)
  clear ra rb hd hg
  go_enter Tryz.func82, Tryz.ntmps82
  go_upto_region 1 with fail
  go_cut [7] (fun a7 wx => ∃ B7, a7 = .pointer (some ⟨B7, 0, none⟩) ∧ wx.heap[B7]? = some (.cells #[.int .i64 ux, .int .i64 uy] 28 (0, 0)) ∧ w.heap.size ≤ B7 ∧ Below w.heap.size w wx)
  case first =>
    refine wp_region_held_drew (S := (fun W => W.cell? ⟨g, oa + 2, none⟩ = some (.int .i64 ax) ∧ W.cell? ⟨g, oa + 3, none⟩ = some (.int .i64 ay) ∧ W.cell? ⟨g, oa + 4, none⟩ = some (.int .i64 avx) ∧ W.cell? ⟨g, oa + 5, none⟩ = some (.int .i64 avy) ∧ W.cell? ⟨g, ob + 2, none⟩ = some (.int .i64 bx) ∧ W.cell? ⟨g, ob + 3, none⟩ = some (.int .i64 by1) ∧ W.cell? ⟨g, ob + 4, none⟩ = some (.int .i64 bvx) ∧ W.cell? ⟨g, ob + 5, none⟩ = some (.int .i64 bvy))) (by kernel_rfl) (HQ.out _ (Below.refl _ _).drew) (fun hH => ?_)
    obtain ⟨v0, hv0⟩ : ∃ v0, v0 = w.drew := ⟨_, rfl⟩
    have hB : Below w.heap.size w w.drew := (Below.refl _ _).drew
    have hBs : w.heap.size ≤ w.drew.heap.size := Nat.le_refl _
    rw [← hv0] at hB hBs hH ⊢
    clear hv0
    refine wpAnyH_take (i := 0) (oi := { dst := some 11, op := Go.Op.move (Go.Operand.tmp 1), type := 179, pos := "contact.go:80", after := #[], guard := none }) (v := (.pointer (some ⟨g, ob, none⟩))) rfl (by kernel_rfl) (by kernel_rfl) (by kernel_rfl) (fun _ _ _ h => h) (Or.inl ⟨by rfl, ?_⟩) hH ?_
    · intro w hSw
      (try dsimp only at hSw)
      go_simp
    (try simp only [Act.put, List.setIfInBounds_toArray, List.set_cons_zero, List.set_cons_succ])
    refine wpAnyH_take (i := 1) (oi := { dst := some 12, op := Go.Op.nilCheck (Go.Operand.tmp 11), type := 0, pos := "contact.go:80", after := #[{ on := 0, ground := Go.Ground.data }], guard := none }) (v := (.pointer (some ⟨g, ob, none⟩))) rfl (by kernel_rfl) (by kernel_rfl) (by kernel_rfl) (fun _ _ _ h => h) (Or.inl ⟨by rfl, ?_⟩) hH ?_
    · intro w hSw
      (try dsimp only at hSw)
      go_simp
    (try simp only [Act.put, List.setIfInBounds_toArray, List.set_cons_zero, List.set_cons_succ])
    refine wpAnyH_take (i := 2) (oi := { dst := some 13, op := Go.Op.fieldAddr 174 (Go.Operand.tmp 12) 0, type := 0, pos := "contact.go:80", after := #[{ on := 1, ground := Go.Ground.data }], guard := none }) (v := (.pointer (some ⟨g, ob, none⟩))) rfl (by kernel_rfl) (by kernel_rfl) (by kernel_rfl) (fun _ _ _ h => h) (Or.inl ⟨by rfl, ?_⟩) hH ?_
    · intro w hSw
      (try dsimp only at hSw)
      go_simp
    (try simp only [Act.put, List.setIfInBounds_toArray, List.set_cons_zero, List.set_cons_succ])
    refine wpAnyH_take (i := 3) (oi := { dst := some 14, op := Go.Op.fieldAddr 72 (Go.Operand.tmp 13) 2, type := 0, pos := "contact.go:80", after := #[{ on := 2, ground := Go.Ground.data }], guard := none }) (v := (.pointer (some ⟨g, ob + 2, none⟩))) rfl (by kernel_rfl) (by kernel_rfl) (by kernel_rfl) (fun _ _ _ h => h) (Or.inl ⟨by rfl, ?_⟩) hH ?_
    · intro w hSw
      (try dsimp only at hSw)
      go_simp
    (try simp only [Act.put, List.setIfInBounds_toArray, List.set_cons_zero, List.set_cons_succ])
    refine wpAnyH_take (i := 4) (oi := { dst := some 15, op := Go.Op.fieldAddr 39 (Go.Operand.tmp 14) 0, type := 0, pos := "contact.go:80", after := #[{ on := 3, ground := Go.Ground.data }], guard := none }) (v := (.pointer (some ⟨g, ob + 2, none⟩))) rfl (by kernel_rfl) (by kernel_rfl) (by kernel_rfl) (fun _ _ _ h => h) (Or.inl ⟨by rfl, ?_⟩) hH ?_
    · intro w hSw
      (try dsimp only at hSw)
      go_simp
    (try simp only [Act.put, List.setIfInBounds_toArray, List.set_cons_zero, List.set_cons_succ])
    refine wpAnyH_take (i := 5) (oi := { dst := some 16, op := Go.Op.load 28 (Go.Operand.tmp 15), type := 28, pos := "contact.go:80", after := #[{ on := 4, ground := Go.Ground.data }], guard := none }) (v := (.agg #[.int .i64 bx, .int .i64 by1])) rfl (by kernel_rfl) (by kernel_rfl) (by kernel_rfl) (fun _ _ _ h => h) (Or.inl ⟨by rfl, ?_⟩) hH ?_
    · intro w hSw
      (try dsimp only at hSw)
      go_simp
    (try simp only [Act.put, List.setIfInBounds_toArray, List.set_cons_zero, List.set_cons_succ])
    refine wpAnyH_take (i := 6) (oi := { dst := some 17, op := Go.Op.move (Go.Operand.tmp 0), type := 179, pos := "contact.go:80", after := #[], guard := none }) (v := (.pointer (some ⟨g, oa, none⟩))) rfl (by kernel_rfl) (by kernel_rfl) (by kernel_rfl) (fun _ _ _ h => h) (Or.inl ⟨by rfl, ?_⟩) hH ?_
    · intro w hSw
      (try dsimp only at hSw)
      go_simp
    (try simp only [Act.put, List.setIfInBounds_toArray, List.set_cons_zero, List.set_cons_succ])
    refine wpAnyH_take (i := 7) (oi := { dst := some 18, op := Go.Op.nilCheck (Go.Operand.tmp 17), type := 0, pos := "contact.go:80", after := #[{ on := 6, ground := Go.Ground.data }], guard := none }) (v := (.pointer (some ⟨g, oa, none⟩))) rfl (by kernel_rfl) (by kernel_rfl) (by kernel_rfl) (fun _ _ _ h => h) (Or.inl ⟨by rfl, ?_⟩) hH ?_
    · intro w hSw
      (try dsimp only at hSw)
      go_simp
    (try simp only [Act.put, List.setIfInBounds_toArray, List.set_cons_zero, List.set_cons_succ])
    refine wpAnyH_take (i := 8) (oi := { dst := some 19, op := Go.Op.fieldAddr 174 (Go.Operand.tmp 18) 0, type := 0, pos := "contact.go:80", after := #[{ on := 7, ground := Go.Ground.data }], guard := none }) (v := (.pointer (some ⟨g, oa, none⟩))) rfl (by kernel_rfl) (by kernel_rfl) (by kernel_rfl) (fun _ _ _ h => h) (Or.inl ⟨by rfl, ?_⟩) hH ?_
    · intro w hSw
      (try dsimp only at hSw)
      go_simp
    (try simp only [Act.put, List.setIfInBounds_toArray, List.set_cons_zero, List.set_cons_succ])
    refine wpAnyH_take (i := 9) (oi := { dst := some 20, op := Go.Op.fieldAddr 72 (Go.Operand.tmp 19) 2, type := 0, pos := "contact.go:80", after := #[{ on := 8, ground := Go.Ground.data }], guard := none }) (v := (.pointer (some ⟨g, oa + 2, none⟩))) rfl (by kernel_rfl) (by kernel_rfl) (by kernel_rfl) (fun _ _ _ h => h) (Or.inl ⟨by rfl, ?_⟩) hH ?_
    · intro w hSw
      (try dsimp only at hSw)
      go_simp
    (try simp only [Act.put, List.setIfInBounds_toArray, List.set_cons_zero, List.set_cons_succ])
    refine wpAnyH_take (i := 10) (oi := { dst := some 21, op := Go.Op.fieldAddr 39 (Go.Operand.tmp 20) 0, type := 0, pos := "contact.go:80", after := #[{ on := 9, ground := Go.Ground.data }], guard := none }) (v := (.pointer (some ⟨g, oa + 2, none⟩))) rfl (by kernel_rfl) (by kernel_rfl) (by kernel_rfl) (fun _ _ _ h => h) (Or.inl ⟨by rfl, ?_⟩) hH ?_
    · intro w hSw
      (try dsimp only at hSw)
      go_simp
    (try simp only [Act.put, List.setIfInBounds_toArray, List.set_cons_zero, List.set_cons_succ])
    refine wpAnyH_take (i := 11) (oi := { dst := some 22, op := Go.Op.load 28 (Go.Operand.tmp 21), type := 28, pos := "contact.go:80", after := #[{ on := 10, ground := Go.Ground.data }], guard := none }) (v := (.agg #[.int .i64 ax, .int .i64 ay])) rfl (by kernel_rfl) (by kernel_rfl) (by kernel_rfl) (fun _ _ _ h => h) (Or.inl ⟨by rfl, ?_⟩) hH ?_
    · intro w hSw
      (try dsimp only at hSw)
      go_simp
    (try simp only [Act.put, List.setIfInBounds_toArray, List.set_cons_zero, List.set_cons_succ])
    refine wpAnyH_ready (rs := [12, 20]) (by kernel_rfl) (by simp) ?_
    refine AllReadyH.cons rfl (fun K hK => ?_) (AllReadyH.cons rfl (fun K hK => ?_) AllReadyH.nil)
    · skip
      (try dsimp only at hH)
      go_simp
      refine (HM1.out _).mono ?_
      rintro e v1 ⟨rfl, hb1⟩
      refine hK.out _ _ (HQ.out _ (btrans hB (Nat.le_refl _) hb1)) (fun hH1 => ?_)
      clear hK K
      have hB := btrans hB (Nat.le_refl _) hb1
      have hz1 := hb1.size
      have hBs := hB.size
      (try simp only [Act.put, List.setIfInBounds_toArray, List.set_cons_zero, List.set_cons_succ])
      refine wpAnyH_take (i := 13) (oi := { dst := some 24, op := Go.Op.extract (Go.Operand.tmp 23) 0, type := 28, pos := "contact.go:80", after := #[{ on := 12, ground := Go.Ground.data }], guard := none }) (v := (.agg #[.int .i64 dx, .int .i64 dy])) rfl (by kernel_rfl) (by kernel_rfl) (by kernel_rfl) (fun _ _ _ h => h) (Or.inl ⟨by rfl, ?_⟩) hH1 ?_
      · intro w hSw
        (try dsimp only at hSw)
        go_simp
      (try simp only [Act.put, List.setIfInBounds_toArray, List.set_cons_zero, List.set_cons_succ])
      refine wpAnyH_take (i := 14) (oi := { dst := some 25, op := Go.Op.extract (Go.Operand.tmp 23) 1, type := 33, pos := "contact.go:80", after := #[{ on := 12, ground := Go.Ground.data }], guard := none }) (v := (.int .i64 0)) rfl (by kernel_rfl) (by kernel_rfl) (by kernel_rfl) (fun _ _ _ h => h) (Or.inl ⟨by rfl, ?_⟩) hH1 ?_
      · intro w hSw
        (try dsimp only at hSw)
        go_simp
      (try simp only [Act.put, List.setIfInBounds_toArray, List.set_cons_zero, List.set_cons_succ])
      refine wpAnyH_ready (rs := [15, 20]) (by kernel_rfl) (by simp) ?_
      refine AllReadyH.cons rfl (fun K hK => ?_) (AllReadyH.cons rfl (fun K hK => ?_) AllReadyH.nil)
      · skip
        (try dsimp only at hH1)
        go_simp
        refine (HD.out _).mono ?_
        rintro e v2 ⟨rfl, hb2⟩
        refine hK.out _ _ (HQ.out _ (btrans hB (Nat.le_refl _) hb2)) (fun hH2 => ?_)
        clear hK K
        have hB := btrans hB (Nat.le_refl _) hb2
        have hz2 := hb2.size
        have hBs := hB.size
        (try simp only [Act.put, List.setIfInBounds_toArray, List.set_cons_zero, List.set_cons_succ])
        refine wpAnyH_ready (rs := [16, 20]) (by kernel_rfl) (by simp) ?_
        refine AllReadyH.cons rfl (fun K hK => ?_) (AllReadyH.cons rfl (fun K hK => ?_) AllReadyH.nil)
        · skip
          (try dsimp only at hH2)
          go_simp
          refine (HU.out _).mono ?_
          rintro e v3 ⟨rfl, hb3⟩
          refine hK.out _ _ (HQ.out _ (btrans hB (Nat.le_refl _) hb3)) (fun hH3 => ?_)
          clear hK K
          have hB := btrans hB (Nat.le_refl _) hb3
          have hz3 := hb3.size
          have hBs := hB.size
          (try simp only [Act.put, List.setIfInBounds_toArray, List.set_cons_zero, List.set_cons_succ])
          refine wpAnyH_take (i := 17) (oi := { dst := some 28, op := Go.Op.extract (Go.Operand.tmp 27) 0, type := 28, pos := "contact.go:80", after := #[{ on := 16, ground := Go.Ground.data }], guard := none }) (v := (.agg #[.int .i64 ux, .int .i64 uy])) rfl (by kernel_rfl) (by kernel_rfl) (by kernel_rfl) (fun _ _ _ h => h) (Or.inl ⟨by rfl, ?_⟩) hH3 ?_
          · intro w hSw
            (try dsimp only at hSw)
            go_simp
          (try simp only [Act.put, List.setIfInBounds_toArray, List.set_cons_zero, List.set_cons_succ])
          refine wpAnyH_take (i := 18) (oi := { dst := some 29, op := Go.Op.extract (Go.Operand.tmp 27) 1, type := 33, pos := "contact.go:80", after := #[{ on := 16, ground := Go.Ground.data }], guard := none }) (v := (.int .i64 0)) rfl (by kernel_rfl) (by kernel_rfl) (by kernel_rfl) (fun _ _ _ h => h) (Or.inl ⟨by rfl, ?_⟩) hH3 ?_
          · intro w hSw
            (try dsimp only at hSw)
            go_simp
          (try simp only [Act.put, List.setIfInBounds_toArray, List.set_cons_zero, List.set_cons_succ])
          refine wpAnyH_ready (rs := [19, 20]) (by kernel_rfl) (by simp) ?_
          refine AllReadyH.cons rfl (fun K hK => ?_) (AllReadyH.cons rfl (fun K hK => ?_) AllReadyH.nil)
          · skip
            (try dsimp only at hH3)
            go_simp
            refine (HUM.out _).mono ?_
            rintro e v4 ⟨rfl, hb4⟩
            refine hK.out _ _ (HQ.out _ (btrans hB (Nat.le_refl _) hb4)) (fun hH4 => ?_)
            clear hK K
            have hB := btrans hB (Nat.le_refl _) hb4
            have hz4 := hb4.size
            have hBs := hB.size
            (try simp only [Act.put, List.setIfInBounds_toArray, List.set_cons_zero, List.set_cons_succ])
            refine wpAnyH_ready (rs := [20]) (by kernel_rfl) (by simp) ?_
            refine AllReadyH.cons rfl (fun K hK => ?_) AllReadyH.nil
            (try dsimp only at hH4)
            go_simp
            refine hK.out _ _ (HQ.out _ (hB.alloc hBs (.cells #[.int .i64 0, .int .i64 0] 28))) (fun hH5 => ?_)
            clear hK K
            have haL := heap_alloc_new v4 (.cells #[.int .i64 0, .int .i64 0] 28)
            have hb5 : Below v4.heap.size v4 (v4.alloc (.cells #[.int .i64 0, .int .i64 0] 28)) := (Below.refl _ _).alloc (Nat.le_refl _) (.cells #[.int .i64 0, .int .i64 0] 28)
            have hlL : v4.heap.size < (v4.alloc (.cells #[.int .i64 0, .int .i64 0] 28)).heap.size := by simp
            generalize v4.alloc (.cells #[.int .i64 0, .int .i64 0] 28) = v5 at *
            have hB := btrans hB (Nat.le_refl _) hb5
            have hz5 := hb5.size
            have hBs := hB.size
            (try simp only [Act.put, List.setIfInBounds_toArray, List.set_cons_zero, List.set_cons_succ])
            refine wpAnyH_ready (rs := [21]) (by kernel_rfl) (by simp) ?_
            refine AllReadyH.cons rfl (fun K hK => ?_) AllReadyH.nil
            (try dsimp only at hH5)
            obtain ⟨q0, q1, q2, q3⟩ := cells2 haL
            have hge : w.heap.size ≤ v4.heap.size := by omega
            go_simp
            refine hK.out _ _ (HQ.out _ (put2_below (.int .i64 ux) (.int .i64 uy) hB hge)) (fun hH6 => ?_)
            clear hK K
            have haL := put2_same (.int .i64 ux) (.int .i64 uy) haL
            have hB := put2_below (.int .i64 ux) (.int .i64 uy) hB hge
            generalize ((v5.setCell ⟨v4.heap.size, 0, none⟩ (.int .i64 ux)).setCell ⟨v4.heap.size, 1, none⟩ (.int .i64 uy)) = v6 at *
            (try simp only [Act.put, List.setIfInBounds_toArray, List.set_cons_zero, List.set_cons_succ])
            refine wpAnyH_done (by kernel_rfl) ?_ _
            go_wp2_with fail
            go_meet
            exact ⟨_, rfl, haL, hge, hB⟩
          · skip
            (try dsimp only at hH3)
            go_simp
            refine hK.out _ _ (HQ.out _ (hB.alloc hBs (.cells #[.int .i64 0, .int .i64 0] 28))) (fun hH7 => ?_)
            clear hK K
            have haL := heap_alloc_new v3 (.cells #[.int .i64 0, .int .i64 0] 28)
            have hb4 : Below v3.heap.size v3 (v3.alloc (.cells #[.int .i64 0, .int .i64 0] 28)) := (Below.refl _ _).alloc (Nat.le_refl _) (.cells #[.int .i64 0, .int .i64 0] 28)
            have hlL : v3.heap.size < (v3.alloc (.cells #[.int .i64 0, .int .i64 0] 28)).heap.size := by simp
            generalize v3.alloc (.cells #[.int .i64 0, .int .i64 0] 28) = v4 at *
            have hB := btrans hB (Nat.le_refl _) hb4
            have hz4 := hb4.size
            have hBs := hB.size
            (try simp only [Act.put, List.setIfInBounds_toArray, List.set_cons_zero, List.set_cons_succ])
            refine wpAnyH_ready (rs := [19]) (by kernel_rfl) (by simp) ?_
            refine AllReadyH.cons rfl (fun K hK => ?_) AllReadyH.nil
            (try dsimp only at hH7)
            go_simp
            refine (HUM.out _).mono ?_
            rintro e v5 ⟨rfl, hb5⟩
            refine hK.out _ _ (HQ.out _ (btrans hB (Nat.le_refl _) hb5)) (fun hH8 => ?_)
            clear hK K
            have haL := carry haL hb5
            have hB := btrans hB (Nat.le_refl _) hb5
            have hz5 := hb5.size
            have hBs := hB.size
            (try simp only [Act.put, List.setIfInBounds_toArray, List.set_cons_zero, List.set_cons_succ])
            refine wpAnyH_ready (rs := [21]) (by kernel_rfl) (by simp) ?_
            refine AllReadyH.cons rfl (fun K hK => ?_) AllReadyH.nil
            (try dsimp only at hH8)
            obtain ⟨q0, q1, q2, q3⟩ := cells2 haL
            have hge : w.heap.size ≤ v3.heap.size := by omega
            go_simp
            refine hK.out _ _ (HQ.out _ (put2_below (.int .i64 ux) (.int .i64 uy) hB hge)) (fun hH9 => ?_)
            clear hK K
            have haL := put2_same (.int .i64 ux) (.int .i64 uy) haL
            have hB := put2_below (.int .i64 ux) (.int .i64 uy) hB hge
            generalize ((v5.setCell ⟨v3.heap.size, 0, none⟩ (.int .i64 ux)).setCell ⟨v3.heap.size, 1, none⟩ (.int .i64 uy)) = v6 at *
            (try simp only [Act.put, List.setIfInBounds_toArray, List.set_cons_zero, List.set_cons_succ])
            refine wpAnyH_done (by kernel_rfl) ?_ _
            go_wp2_with fail
            go_meet
            exact ⟨_, rfl, haL, hge, hB⟩
        · skip
          (try dsimp only at hH2)
          go_simp
          refine hK.out _ _ (HQ.out _ (hB.alloc hBs (.cells #[.int .i64 0, .int .i64 0] 28))) (fun hH10 => ?_)
          clear hK K
          have haL := heap_alloc_new v2 (.cells #[.int .i64 0, .int .i64 0] 28)
          have hb3 : Below v2.heap.size v2 (v2.alloc (.cells #[.int .i64 0, .int .i64 0] 28)) := (Below.refl _ _).alloc (Nat.le_refl _) (.cells #[.int .i64 0, .int .i64 0] 28)
          have hlL : v2.heap.size < (v2.alloc (.cells #[.int .i64 0, .int .i64 0] 28)).heap.size := by simp
          generalize v2.alloc (.cells #[.int .i64 0, .int .i64 0] 28) = v3 at *
          have hB := btrans hB (Nat.le_refl _) hb3
          have hz3 := hb3.size
          have hBs := hB.size
          (try simp only [Act.put, List.setIfInBounds_toArray, List.set_cons_zero, List.set_cons_succ])
          refine wpAnyH_ready (rs := [16]) (by kernel_rfl) (by simp) ?_
          refine AllReadyH.cons rfl (fun K hK => ?_) AllReadyH.nil
          (try dsimp only at hH10)
          go_simp
          refine (HU.out _).mono ?_
          rintro e v4 ⟨rfl, hb4⟩
          refine hK.out _ _ (HQ.out _ (btrans hB (Nat.le_refl _) hb4)) (fun hH11 => ?_)
          clear hK K
          have haL := carry haL hb4
          have hB := btrans hB (Nat.le_refl _) hb4
          have hz4 := hb4.size
          have hBs := hB.size
          (try simp only [Act.put, List.setIfInBounds_toArray, List.set_cons_zero, List.set_cons_succ])
          refine wpAnyH_take (i := 17) (oi := { dst := some 28, op := Go.Op.extract (Go.Operand.tmp 27) 0, type := 28, pos := "contact.go:80", after := #[{ on := 16, ground := Go.Ground.data }], guard := none }) (v := (.agg #[.int .i64 ux, .int .i64 uy])) rfl (by kernel_rfl) (by kernel_rfl) (by kernel_rfl) (fun _ _ _ h => h) (Or.inl ⟨by rfl, ?_⟩) hH11 ?_
          · intro w hSw
            (try dsimp only at hSw)
            go_simp
          (try simp only [Act.put, List.setIfInBounds_toArray, List.set_cons_zero, List.set_cons_succ])
          refine wpAnyH_take (i := 18) (oi := { dst := some 29, op := Go.Op.extract (Go.Operand.tmp 27) 1, type := 33, pos := "contact.go:80", after := #[{ on := 16, ground := Go.Ground.data }], guard := none }) (v := (.int .i64 0)) rfl (by kernel_rfl) (by kernel_rfl) (by kernel_rfl) (fun _ _ _ h => h) (Or.inl ⟨by rfl, ?_⟩) hH11 ?_
          · intro w hSw
            (try dsimp only at hSw)
            go_simp
          (try simp only [Act.put, List.setIfInBounds_toArray, List.set_cons_zero, List.set_cons_succ])
          refine wpAnyH_ready (rs := [19]) (by kernel_rfl) (by simp) ?_
          refine AllReadyH.cons rfl (fun K hK => ?_) AllReadyH.nil
          (try dsimp only at hH11)
          go_simp
          refine (HUM.out _).mono ?_
          rintro e v5 ⟨rfl, hb5⟩
          refine hK.out _ _ (HQ.out _ (btrans hB (Nat.le_refl _) hb5)) (fun hH12 => ?_)
          clear hK K
          have haL := carry haL hb5
          have hB := btrans hB (Nat.le_refl _) hb5
          have hz5 := hb5.size
          have hBs := hB.size
          (try simp only [Act.put, List.setIfInBounds_toArray, List.set_cons_zero, List.set_cons_succ])
          refine wpAnyH_ready (rs := [21]) (by kernel_rfl) (by simp) ?_
          refine AllReadyH.cons rfl (fun K hK => ?_) AllReadyH.nil
          (try dsimp only at hH12)
          obtain ⟨q0, q1, q2, q3⟩ := cells2 haL
          have hge : w.heap.size ≤ v2.heap.size := by omega
          go_simp
          refine hK.out _ _ (HQ.out _ (put2_below (.int .i64 ux) (.int .i64 uy) hB hge)) (fun hH13 => ?_)
          clear hK K
          have haL := put2_same (.int .i64 ux) (.int .i64 uy) haL
          have hB := put2_below (.int .i64 ux) (.int .i64 uy) hB hge
          generalize ((v5.setCell ⟨v2.heap.size, 0, none⟩ (.int .i64 ux)).setCell ⟨v2.heap.size, 1, none⟩ (.int .i64 uy)) = v6 at *
          (try simp only [Act.put, List.setIfInBounds_toArray, List.set_cons_zero, List.set_cons_succ])
          refine wpAnyH_done (by kernel_rfl) ?_ _
          go_wp2_with fail
          go_meet
          exact ⟨_, rfl, haL, hge, hB⟩
      · skip
        (try dsimp only at hH1)
        go_simp
        refine hK.out _ _ (HQ.out _ (hB.alloc hBs (.cells #[.int .i64 0, .int .i64 0] 28))) (fun hH14 => ?_)
        clear hK K
        have haL := heap_alloc_new v1 (.cells #[.int .i64 0, .int .i64 0] 28)
        have hb2 : Below v1.heap.size v1 (v1.alloc (.cells #[.int .i64 0, .int .i64 0] 28)) := (Below.refl _ _).alloc (Nat.le_refl _) (.cells #[.int .i64 0, .int .i64 0] 28)
        have hlL : v1.heap.size < (v1.alloc (.cells #[.int .i64 0, .int .i64 0] 28)).heap.size := by simp
        generalize v1.alloc (.cells #[.int .i64 0, .int .i64 0] 28) = v2 at *
        have hB := btrans hB (Nat.le_refl _) hb2
        have hz2 := hb2.size
        have hBs := hB.size
        (try simp only [Act.put, List.setIfInBounds_toArray, List.set_cons_zero, List.set_cons_succ])
        refine wpAnyH_ready (rs := [15]) (by kernel_rfl) (by simp) ?_
        refine AllReadyH.cons rfl (fun K hK => ?_) AllReadyH.nil
        (try dsimp only at hH14)
        go_simp
        refine (HD.out _).mono ?_
        rintro e v3 ⟨rfl, hb3⟩
        refine hK.out _ _ (HQ.out _ (btrans hB (Nat.le_refl _) hb3)) (fun hH15 => ?_)
        clear hK K
        have haL := carry haL hb3
        have hB := btrans hB (Nat.le_refl _) hb3
        have hz3 := hb3.size
        have hBs := hB.size
        (try simp only [Act.put, List.setIfInBounds_toArray, List.set_cons_zero, List.set_cons_succ])
        refine wpAnyH_ready (rs := [16]) (by kernel_rfl) (by simp) ?_
        refine AllReadyH.cons rfl (fun K hK => ?_) AllReadyH.nil
        (try dsimp only at hH15)
        go_simp
        refine (HU.out _).mono ?_
        rintro e v4 ⟨rfl, hb4⟩
        refine hK.out _ _ (HQ.out _ (btrans hB (Nat.le_refl _) hb4)) (fun hH16 => ?_)
        clear hK K
        have haL := carry haL hb4
        have hB := btrans hB (Nat.le_refl _) hb4
        have hz4 := hb4.size
        have hBs := hB.size
        (try simp only [Act.put, List.setIfInBounds_toArray, List.set_cons_zero, List.set_cons_succ])
        refine wpAnyH_take (i := 17) (oi := { dst := some 28, op := Go.Op.extract (Go.Operand.tmp 27) 0, type := 28, pos := "contact.go:80", after := #[{ on := 16, ground := Go.Ground.data }], guard := none }) (v := (.agg #[.int .i64 ux, .int .i64 uy])) rfl (by kernel_rfl) (by kernel_rfl) (by kernel_rfl) (fun _ _ _ h => h) (Or.inl ⟨by rfl, ?_⟩) hH16 ?_
        · intro w hSw
          (try dsimp only at hSw)
          go_simp
        (try simp only [Act.put, List.setIfInBounds_toArray, List.set_cons_zero, List.set_cons_succ])
        refine wpAnyH_take (i := 18) (oi := { dst := some 29, op := Go.Op.extract (Go.Operand.tmp 27) 1, type := 33, pos := "contact.go:80", after := #[{ on := 16, ground := Go.Ground.data }], guard := none }) (v := (.int .i64 0)) rfl (by kernel_rfl) (by kernel_rfl) (by kernel_rfl) (fun _ _ _ h => h) (Or.inl ⟨by rfl, ?_⟩) hH16 ?_
        · intro w hSw
          (try dsimp only at hSw)
          go_simp
        (try simp only [Act.put, List.setIfInBounds_toArray, List.set_cons_zero, List.set_cons_succ])
        refine wpAnyH_ready (rs := [19]) (by kernel_rfl) (by simp) ?_
        refine AllReadyH.cons rfl (fun K hK => ?_) AllReadyH.nil
        (try dsimp only at hH16)
        go_simp
        refine (HUM.out _).mono ?_
        rintro e v5 ⟨rfl, hb5⟩
        refine hK.out _ _ (HQ.out _ (btrans hB (Nat.le_refl _) hb5)) (fun hH17 => ?_)
        clear hK K
        have haL := carry haL hb5
        have hB := btrans hB (Nat.le_refl _) hb5
        have hz5 := hb5.size
        have hBs := hB.size
        (try simp only [Act.put, List.setIfInBounds_toArray, List.set_cons_zero, List.set_cons_succ])
        refine wpAnyH_ready (rs := [21]) (by kernel_rfl) (by simp) ?_
        refine AllReadyH.cons rfl (fun K hK => ?_) AllReadyH.nil
        (try dsimp only at hH17)
        obtain ⟨q0, q1, q2, q3⟩ := cells2 haL
        have hge : w.heap.size ≤ v1.heap.size := by omega
        go_simp
        refine hK.out _ _ (HQ.out _ (put2_below (.int .i64 ux) (.int .i64 uy) hB hge)) (fun hH18 => ?_)
        clear hK K
        have haL := put2_same (.int .i64 ux) (.int .i64 uy) haL
        have hB := put2_below (.int .i64 ux) (.int .i64 uy) hB hge
        generalize ((v5.setCell ⟨v1.heap.size, 0, none⟩ (.int .i64 ux)).setCell ⟨v1.heap.size, 1, none⟩ (.int .i64 uy)) = v6 at *
        (try simp only [Act.put, List.setIfInBounds_toArray, List.set_cons_zero, List.set_cons_succ])
        refine wpAnyH_done (by kernel_rfl) ?_ _
        go_wp2_with fail
        go_meet
        exact ⟨_, rfl, haL, hge, hB⟩
    · skip
      (try dsimp only at hH)
      go_simp
      refine hK.out _ _ (HQ.out _ (hB.alloc hBs (.cells #[.int .i64 0, .int .i64 0] 28))) (fun hH19 => ?_)
      clear hK K
      have haL := heap_alloc_new v0 (.cells #[.int .i64 0, .int .i64 0] 28)
      have hb1 : Below v0.heap.size v0 (v0.alloc (.cells #[.int .i64 0, .int .i64 0] 28)) := (Below.refl _ _).alloc (Nat.le_refl _) (.cells #[.int .i64 0, .int .i64 0] 28)
      have hlL : v0.heap.size < (v0.alloc (.cells #[.int .i64 0, .int .i64 0] 28)).heap.size := by simp
      generalize v0.alloc (.cells #[.int .i64 0, .int .i64 0] 28) = v1 at *
      have hB := btrans hB (Nat.le_refl _) hb1
      have hz1 := hb1.size
      have hBs := hB.size
      (try simp only [Act.put, List.setIfInBounds_toArray, List.set_cons_zero, List.set_cons_succ])
      refine wpAnyH_ready (rs := [12]) (by kernel_rfl) (by simp) ?_
      refine AllReadyH.cons rfl (fun K hK => ?_) AllReadyH.nil
      (try dsimp only at hH19)
      go_simp
      refine (HM1.out _).mono ?_
      rintro e v2 ⟨rfl, hb2⟩
      refine hK.out _ _ (HQ.out _ (btrans hB (Nat.le_refl _) hb2)) (fun hH20 => ?_)
      clear hK K
      have haL := carry haL hb2
      have hB := btrans hB (Nat.le_refl _) hb2
      have hz2 := hb2.size
      have hBs := hB.size
      (try simp only [Act.put, List.setIfInBounds_toArray, List.set_cons_zero, List.set_cons_succ])
      refine wpAnyH_take (i := 13) (oi := { dst := some 24, op := Go.Op.extract (Go.Operand.tmp 23) 0, type := 28, pos := "contact.go:80", after := #[{ on := 12, ground := Go.Ground.data }], guard := none }) (v := (.agg #[.int .i64 dx, .int .i64 dy])) rfl (by kernel_rfl) (by kernel_rfl) (by kernel_rfl) (fun _ _ _ h => h) (Or.inl ⟨by rfl, ?_⟩) hH20 ?_
      · intro w hSw
        (try dsimp only at hSw)
        go_simp
      (try simp only [Act.put, List.setIfInBounds_toArray, List.set_cons_zero, List.set_cons_succ])
      refine wpAnyH_take (i := 14) (oi := { dst := some 25, op := Go.Op.extract (Go.Operand.tmp 23) 1, type := 33, pos := "contact.go:80", after := #[{ on := 12, ground := Go.Ground.data }], guard := none }) (v := (.int .i64 0)) rfl (by kernel_rfl) (by kernel_rfl) (by kernel_rfl) (fun _ _ _ h => h) (Or.inl ⟨by rfl, ?_⟩) hH20 ?_
      · intro w hSw
        (try dsimp only at hSw)
        go_simp
      (try simp only [Act.put, List.setIfInBounds_toArray, List.set_cons_zero, List.set_cons_succ])
      refine wpAnyH_ready (rs := [15]) (by kernel_rfl) (by simp) ?_
      refine AllReadyH.cons rfl (fun K hK => ?_) AllReadyH.nil
      (try dsimp only at hH20)
      go_simp
      refine (HD.out _).mono ?_
      rintro e v3 ⟨rfl, hb3⟩
      refine hK.out _ _ (HQ.out _ (btrans hB (Nat.le_refl _) hb3)) (fun hH21 => ?_)
      clear hK K
      have haL := carry haL hb3
      have hB := btrans hB (Nat.le_refl _) hb3
      have hz3 := hb3.size
      have hBs := hB.size
      (try simp only [Act.put, List.setIfInBounds_toArray, List.set_cons_zero, List.set_cons_succ])
      refine wpAnyH_ready (rs := [16]) (by kernel_rfl) (by simp) ?_
      refine AllReadyH.cons rfl (fun K hK => ?_) AllReadyH.nil
      (try dsimp only at hH21)
      go_simp
      refine (HU.out _).mono ?_
      rintro e v4 ⟨rfl, hb4⟩
      refine hK.out _ _ (HQ.out _ (btrans hB (Nat.le_refl _) hb4)) (fun hH22 => ?_)
      clear hK K
      have haL := carry haL hb4
      have hB := btrans hB (Nat.le_refl _) hb4
      have hz4 := hb4.size
      have hBs := hB.size
      (try simp only [Act.put, List.setIfInBounds_toArray, List.set_cons_zero, List.set_cons_succ])
      refine wpAnyH_take (i := 17) (oi := { dst := some 28, op := Go.Op.extract (Go.Operand.tmp 27) 0, type := 28, pos := "contact.go:80", after := #[{ on := 16, ground := Go.Ground.data }], guard := none }) (v := (.agg #[.int .i64 ux, .int .i64 uy])) rfl (by kernel_rfl) (by kernel_rfl) (by kernel_rfl) (fun _ _ _ h => h) (Or.inl ⟨by rfl, ?_⟩) hH22 ?_
      · intro w hSw
        (try dsimp only at hSw)
        go_simp
      (try simp only [Act.put, List.setIfInBounds_toArray, List.set_cons_zero, List.set_cons_succ])
      refine wpAnyH_take (i := 18) (oi := { dst := some 29, op := Go.Op.extract (Go.Operand.tmp 27) 1, type := 33, pos := "contact.go:80", after := #[{ on := 16, ground := Go.Ground.data }], guard := none }) (v := (.int .i64 0)) rfl (by kernel_rfl) (by kernel_rfl) (by kernel_rfl) (fun _ _ _ h => h) (Or.inl ⟨by rfl, ?_⟩) hH22 ?_
      · intro w hSw
        (try dsimp only at hSw)
        go_simp
      (try simp only [Act.put, List.setIfInBounds_toArray, List.set_cons_zero, List.set_cons_succ])
      refine wpAnyH_ready (rs := [19]) (by kernel_rfl) (by simp) ?_
      refine AllReadyH.cons rfl (fun K hK => ?_) AllReadyH.nil
      (try dsimp only at hH22)
      go_simp
      refine (HUM.out _).mono ?_
      rintro e v5 ⟨rfl, hb5⟩
      refine hK.out _ _ (HQ.out _ (btrans hB (Nat.le_refl _) hb5)) (fun hH23 => ?_)
      clear hK K
      have haL := carry haL hb5
      have hB := btrans hB (Nat.le_refl _) hb5
      have hz5 := hb5.size
      have hBs := hB.size
      (try simp only [Act.put, List.setIfInBounds_toArray, List.set_cons_zero, List.set_cons_succ])
      refine wpAnyH_ready (rs := [21]) (by kernel_rfl) (by simp) ?_
      refine AllReadyH.cons rfl (fun K hK => ?_) AllReadyH.nil
      (try dsimp only at hH23)
      obtain ⟨q0, q1, q2, q3⟩ := cells2 haL
      have hge : w.heap.size ≤ v0.heap.size := by omega
      go_simp
      refine hK.out _ _ (HQ.out _ (put2_below (.int .i64 ux) (.int .i64 uy) hB hge)) (fun hH24 => ?_)
      clear hK K
      have haL := put2_same (.int .i64 ux) (.int .i64 uy) haL
      have hB := put2_below (.int .i64 ux) (.int .i64 uy) hB hge
      generalize ((v5.setCell ⟨v0.heap.size, 0, none⟩ (.int .i64 ux)).setCell ⟨v0.heap.size, 1, none⟩ (.int .i64 uy)) = v6 at *
      (try simp only [Act.put, List.setIfInBounds_toArray, List.set_cons_zero, List.set_cons_succ])
      refine wpAnyH_done (by kernel_rfl) ?_ _
      go_wp2_with fail
      go_meet
      exact ⟨_, rfl, haL, hge, hB⟩
  case rest =>
    obtain ⟨B7, rfl, k7, hg7, hb3⟩ := hcut
    obtain ⟨wx, rfl⟩ := nameWx hb3
    have HQ2 := hid (show ∀ W, Below wx.heap.size wx W → W.cell? ⟨g, oa + 2, none⟩ = some (.int .i64 ax) ∧ W.cell? ⟨g, oa + 3, none⟩ = some (.int .i64 ay) ∧ W.cell? ⟨g, oa + 4, none⟩ = some (.int .i64 avx) ∧ W.cell? ⟨g, oa + 5, none⟩ = some (.int .i64 avy) ∧ W.cell? ⟨g, ob + 2, none⟩ = some (.int .i64 bx) ∧ W.cell? ⟨g, ob + 3, none⟩ = some (.int .i64 by1) ∧ W.cell? ⟨g, ob + 4, none⟩ = some (.int .i64 bvx) ∧ W.cell? ⟨g, ob + 5, none⟩ = some (.int .i64 bvy) from fun W h => HQ.out _ (hb3.trans (h.mono hb3.size)))
    have HX := hid (And.intro k7 (And.intro hg7 hb3))
    clear k7 hg7 hb3 HQ
    go_upto_region 2 with fail
    go_cut [8] (fun a7 wz => ∃ B7, a7 = .pointer (some ⟨B7, 0, none⟩) ∧ wz.heap[B7]? = some (.cells #[.int .i64 sx, .int .i64 sy] 28 (0, 0)) ∧ wx.heap.size ≤ B7 ∧ Below wx.heap.size wx wz)
    case first =>
      refine wp_region_held_drew (S := (fun W => W.cell? ⟨g, oa + 2, none⟩ = some (.int .i64 ax) ∧ W.cell? ⟨g, oa + 3, none⟩ = some (.int .i64 ay) ∧ W.cell? ⟨g, oa + 4, none⟩ = some (.int .i64 avx) ∧ W.cell? ⟨g, oa + 5, none⟩ = some (.int .i64 avy) ∧ W.cell? ⟨g, ob + 2, none⟩ = some (.int .i64 bx) ∧ W.cell? ⟨g, ob + 3, none⟩ = some (.int .i64 by1) ∧ W.cell? ⟨g, ob + 4, none⟩ = some (.int .i64 bvx) ∧ W.cell? ⟨g, ob + 5, none⟩ = some (.int .i64 bvy))) (by kernel_rfl) (HQ2.out _ (Below.refl _ _).drew) (fun hH => ?_)
      obtain ⟨v0, hv0⟩ : ∃ v0, v0 = wx.drew := ⟨_, rfl⟩
      have hB : Below wx.heap.size wx wx.drew := (Below.refl _ _).drew
      have hBs : wx.heap.size ≤ wx.drew.heap.size := Nat.le_refl _
      rw [← hv0] at hB hBs hH ⊢
      clear hv0
      refine wpAnyH_take (i := 0) (oi := { dst := some 31, op := Go.Op.move (Go.Operand.tmp 0), type := 179, pos := "contact.go:81", after := #[], guard := none }) (v := (.pointer (some ⟨g, oa, none⟩))) rfl (by kernel_rfl) (by kernel_rfl) (by kernel_rfl) (fun _ _ _ h => h) (Or.inl ⟨by rfl, ?_⟩) hH ?_
      · intro w hSw
        (try dsimp only at hSw)
        go_simp
      (try simp only [Act.put, List.setIfInBounds_toArray, List.set_cons_zero, List.set_cons_succ])
      refine wpAnyH_take (i := 1) (oi := { dst := some 32, op := Go.Op.nilCheck (Go.Operand.tmp 31), type := 0, pos := "contact.go:81", after := #[{ on := 0, ground := Go.Ground.data }], guard := none }) (v := (.pointer (some ⟨g, oa, none⟩))) rfl (by kernel_rfl) (by kernel_rfl) (by kernel_rfl) (fun _ _ _ h => h) (Or.inl ⟨by rfl, ?_⟩) hH ?_
      · intro w hSw
        (try dsimp only at hSw)
        go_simp
      (try simp only [Act.put, List.setIfInBounds_toArray, List.set_cons_zero, List.set_cons_succ])
      refine wpAnyH_take (i := 2) (oi := { dst := some 33, op := Go.Op.fieldAddr 174 (Go.Operand.tmp 32) 0, type := 0, pos := "contact.go:81", after := #[{ on := 1, ground := Go.Ground.data }], guard := none }) (v := (.pointer (some ⟨g, oa, none⟩))) rfl (by kernel_rfl) (by kernel_rfl) (by kernel_rfl) (fun _ _ _ h => h) (Or.inl ⟨by rfl, ?_⟩) hH ?_
      · intro w hSw
        (try dsimp only at hSw)
        go_simp
      (try simp only [Act.put, List.setIfInBounds_toArray, List.set_cons_zero, List.set_cons_succ])
      refine wpAnyH_take (i := 3) (oi := { dst := some 34, op := Go.Op.fieldAddr 72 (Go.Operand.tmp 33) 2, type := 0, pos := "contact.go:81", after := #[{ on := 2, ground := Go.Ground.data }], guard := none }) (v := (.pointer (some ⟨g, oa + 2, none⟩))) rfl (by kernel_rfl) (by kernel_rfl) (by kernel_rfl) (fun _ _ _ h => h) (Or.inl ⟨by rfl, ?_⟩) hH ?_
      · intro w hSw
        (try dsimp only at hSw)
        go_simp
      (try simp only [Act.put, List.setIfInBounds_toArray, List.set_cons_zero, List.set_cons_succ])
      refine wpAnyH_take (i := 4) (oi := { dst := some 35, op := Go.Op.fieldAddr 39 (Go.Operand.tmp 34) 1, type := 0, pos := "contact.go:81", after := #[{ on := 3, ground := Go.Ground.data }], guard := none }) (v := (.pointer (some ⟨g, oa + 4, none⟩))) rfl (by kernel_rfl) (by kernel_rfl) (by kernel_rfl) (fun _ _ _ h => h) (Or.inl ⟨by rfl, ?_⟩) hH ?_
      · intro w hSw
        (try dsimp only at hSw)
        go_simp
      (try simp only [Act.put, List.setIfInBounds_toArray, List.set_cons_zero, List.set_cons_succ])
      refine wpAnyH_take (i := 5) (oi := { dst := some 36, op := Go.Op.load 28 (Go.Operand.tmp 35), type := 28, pos := "contact.go:81", after := #[{ on := 4, ground := Go.Ground.data }], guard := none }) (v := (.agg #[.int .i64 avx, .int .i64 avy])) rfl (by kernel_rfl) (by kernel_rfl) (by kernel_rfl) (fun _ _ _ h => h) (Or.inl ⟨by rfl, ?_⟩) hH ?_
      · intro w hSw
        (try dsimp only at hSw)
        go_simp
      (try simp only [Act.put, List.setIfInBounds_toArray, List.set_cons_zero, List.set_cons_succ])
      refine wpAnyH_take (i := 6) (oi := { dst := some 37, op := Go.Op.move (Go.Operand.tmp 1), type := 179, pos := "contact.go:81", after := #[], guard := none }) (v := (.pointer (some ⟨g, ob, none⟩))) rfl (by kernel_rfl) (by kernel_rfl) (by kernel_rfl) (fun _ _ _ h => h) (Or.inl ⟨by rfl, ?_⟩) hH ?_
      · intro w hSw
        (try dsimp only at hSw)
        go_simp
      (try simp only [Act.put, List.setIfInBounds_toArray, List.set_cons_zero, List.set_cons_succ])
      refine wpAnyH_take (i := 7) (oi := { dst := some 38, op := Go.Op.nilCheck (Go.Operand.tmp 37), type := 0, pos := "contact.go:81", after := #[{ on := 6, ground := Go.Ground.data }], guard := none }) (v := (.pointer (some ⟨g, ob, none⟩))) rfl (by kernel_rfl) (by kernel_rfl) (by kernel_rfl) (fun _ _ _ h => h) (Or.inl ⟨by rfl, ?_⟩) hH ?_
      · intro w hSw
        (try dsimp only at hSw)
        go_simp
      (try simp only [Act.put, List.setIfInBounds_toArray, List.set_cons_zero, List.set_cons_succ])
      refine wpAnyH_take (i := 8) (oi := { dst := some 39, op := Go.Op.fieldAddr 174 (Go.Operand.tmp 38) 0, type := 0, pos := "contact.go:81", after := #[{ on := 7, ground := Go.Ground.data }], guard := none }) (v := (.pointer (some ⟨g, ob, none⟩))) rfl (by kernel_rfl) (by kernel_rfl) (by kernel_rfl) (fun _ _ _ h => h) (Or.inl ⟨by rfl, ?_⟩) hH ?_
      · intro w hSw
        (try dsimp only at hSw)
        go_simp
      (try simp only [Act.put, List.setIfInBounds_toArray, List.set_cons_zero, List.set_cons_succ])
      refine wpAnyH_take (i := 9) (oi := { dst := some 40, op := Go.Op.fieldAddr 72 (Go.Operand.tmp 39) 2, type := 0, pos := "contact.go:81", after := #[{ on := 8, ground := Go.Ground.data }], guard := none }) (v := (.pointer (some ⟨g, ob + 2, none⟩))) rfl (by kernel_rfl) (by kernel_rfl) (by kernel_rfl) (fun _ _ _ h => h) (Or.inl ⟨by rfl, ?_⟩) hH ?_
      · intro w hSw
        (try dsimp only at hSw)
        go_simp
      (try simp only [Act.put, List.setIfInBounds_toArray, List.set_cons_zero, List.set_cons_succ])
      refine wpAnyH_take (i := 10) (oi := { dst := some 41, op := Go.Op.fieldAddr 39 (Go.Operand.tmp 40) 1, type := 0, pos := "contact.go:81", after := #[{ on := 9, ground := Go.Ground.data }], guard := none }) (v := (.pointer (some ⟨g, ob + 4, none⟩))) rfl (by kernel_rfl) (by kernel_rfl) (by kernel_rfl) (fun _ _ _ h => h) (Or.inl ⟨by rfl, ?_⟩) hH ?_
      · intro w hSw
        (try dsimp only at hSw)
        go_simp
      (try simp only [Act.put, List.setIfInBounds_toArray, List.set_cons_zero, List.set_cons_succ])
      refine wpAnyH_take (i := 11) (oi := { dst := some 42, op := Go.Op.load 28 (Go.Operand.tmp 41), type := 28, pos := "contact.go:81", after := #[{ on := 10, ground := Go.Ground.data }], guard := none }) (v := (.agg #[.int .i64 bvx, .int .i64 bvy])) rfl (by kernel_rfl) (by kernel_rfl) (by kernel_rfl) (fun _ _ _ h => h) (Or.inl ⟨by rfl, ?_⟩) hH ?_
      · intro w hSw
        (try dsimp only at hSw)
        go_simp
      (try simp only [Act.put, List.setIfInBounds_toArray, List.set_cons_zero, List.set_cons_succ])
      refine wpAnyH_ready (rs := [12, 16]) (by kernel_rfl) (by simp) ?_
      refine AllReadyH.cons rfl (fun K hK => ?_) (AllReadyH.cons rfl (fun K hK => ?_) AllReadyH.nil)
      · skip
        (try dsimp only at hH)
        go_simp
        refine (HM2.out _).mono ?_
        rintro e v1 ⟨rfl, hb1⟩
        refine hK.out _ _ (HQ2.out _ (btrans hB (Nat.le_refl _) hb1)) (fun hH1 => ?_)
        clear hK K
        have hB := btrans hB (Nat.le_refl _) hb1
        have hz1 := hb1.size
        have hBs := hB.size
        (try simp only [Act.put, List.setIfInBounds_toArray, List.set_cons_zero, List.set_cons_succ])
        refine wpAnyH_take (i := 13) (oi := { dst := some 44, op := Go.Op.extract (Go.Operand.tmp 43) 0, type := 28, pos := "contact.go:81", after := #[{ on := 12, ground := Go.Ground.data }], guard := none }) (v := (.agg #[.int .i64 sx, .int .i64 sy])) rfl (by kernel_rfl) (by kernel_rfl) (by kernel_rfl) (fun _ _ _ h => h) (Or.inl ⟨by rfl, ?_⟩) hH1 ?_
        · intro w hSw
          (try dsimp only at hSw)
          go_simp
        (try simp only [Act.put, List.setIfInBounds_toArray, List.set_cons_zero, List.set_cons_succ])
        refine wpAnyH_take (i := 14) (oi := { dst := some 45, op := Go.Op.extract (Go.Operand.tmp 43) 1, type := 33, pos := "contact.go:81", after := #[{ on := 12, ground := Go.Ground.data }], guard := none }) (v := (.int .i64 0)) rfl (by kernel_rfl) (by kernel_rfl) (by kernel_rfl) (fun _ _ _ h => h) (Or.inl ⟨by rfl, ?_⟩) hH1 ?_
        · intro w hSw
          (try dsimp only at hSw)
          go_simp
        (try simp only [Act.put, List.setIfInBounds_toArray, List.set_cons_zero, List.set_cons_succ])
        refine wpAnyH_ready (rs := [15, 16]) (by kernel_rfl) (by simp) ?_
        refine AllReadyH.cons rfl (fun K hK => ?_) (AllReadyH.cons rfl (fun K hK => ?_) AllReadyH.nil)
        · skip
          (try dsimp only at hH1)
          go_simp
          refine (HSM.out _).mono ?_
          rintro e v2 ⟨rfl, hb2⟩
          refine hK.out _ _ (HQ2.out _ (btrans hB (Nat.le_refl _) hb2)) (fun hH2 => ?_)
          clear hK K
          have hB := btrans hB (Nat.le_refl _) hb2
          have hz2 := hb2.size
          have hBs := hB.size
          (try simp only [Act.put, List.setIfInBounds_toArray, List.set_cons_zero, List.set_cons_succ])
          refine wpAnyH_ready (rs := [16]) (by kernel_rfl) (by simp) ?_
          refine AllReadyH.cons rfl (fun K hK => ?_) AllReadyH.nil
          (try dsimp only at hH2)
          go_simp
          refine hK.out _ _ (HQ2.out _ (hB.alloc hBs (.cells #[.int .i64 0, .int .i64 0] 28))) (fun hH3 => ?_)
          clear hK K
          have haL := heap_alloc_new v2 (.cells #[.int .i64 0, .int .i64 0] 28)
          have hb3 : Below v2.heap.size v2 (v2.alloc (.cells #[.int .i64 0, .int .i64 0] 28)) := (Below.refl _ _).alloc (Nat.le_refl _) (.cells #[.int .i64 0, .int .i64 0] 28)
          have hlL : v2.heap.size < (v2.alloc (.cells #[.int .i64 0, .int .i64 0] 28)).heap.size := by simp
          generalize v2.alloc (.cells #[.int .i64 0, .int .i64 0] 28) = v3 at *
          have hB := btrans hB (Nat.le_refl _) hb3
          have hz3 := hb3.size
          have hBs := hB.size
          (try simp only [Act.put, List.setIfInBounds_toArray, List.set_cons_zero, List.set_cons_succ])
          refine wpAnyH_ready (rs := [17]) (by kernel_rfl) (by simp) ?_
          refine AllReadyH.cons rfl (fun K hK => ?_) AllReadyH.nil
          (try dsimp only at hH3)
          obtain ⟨q0, q1, q2, q3⟩ := cells2 haL
          have hge : wx.heap.size ≤ v2.heap.size := by omega
          go_simp
          refine hK.out _ _ (HQ2.out _ (put2_below (.int .i64 sx) (.int .i64 sy) hB hge)) (fun hH4 => ?_)
          clear hK K
          have haL := put2_same (.int .i64 sx) (.int .i64 sy) haL
          have hB := put2_below (.int .i64 sx) (.int .i64 sy) hB hge
          generalize ((v3.setCell ⟨v2.heap.size, 0, none⟩ (.int .i64 sx)).setCell ⟨v2.heap.size, 1, none⟩ (.int .i64 sy)) = v4 at *
          (try simp only [Act.put, List.setIfInBounds_toArray, List.set_cons_zero, List.set_cons_succ])
          refine wpAnyH_done (by kernel_rfl) ?_ _
          go_wp2_with fail
          go_meet
          exact ⟨_, rfl, haL, hge, hB⟩
        · skip
          (try dsimp only at hH1)
          go_simp
          refine hK.out _ _ (HQ2.out _ (hB.alloc hBs (.cells #[.int .i64 0, .int .i64 0] 28))) (fun hH5 => ?_)
          clear hK K
          have haL := heap_alloc_new v1 (.cells #[.int .i64 0, .int .i64 0] 28)
          have hb2 : Below v1.heap.size v1 (v1.alloc (.cells #[.int .i64 0, .int .i64 0] 28)) := (Below.refl _ _).alloc (Nat.le_refl _) (.cells #[.int .i64 0, .int .i64 0] 28)
          have hlL : v1.heap.size < (v1.alloc (.cells #[.int .i64 0, .int .i64 0] 28)).heap.size := by simp
          generalize v1.alloc (.cells #[.int .i64 0, .int .i64 0] 28) = v2 at *
          have hB := btrans hB (Nat.le_refl _) hb2
          have hz2 := hb2.size
          have hBs := hB.size
          (try simp only [Act.put, List.setIfInBounds_toArray, List.set_cons_zero, List.set_cons_succ])
          refine wpAnyH_ready (rs := [15]) (by kernel_rfl) (by simp) ?_
          refine AllReadyH.cons rfl (fun K hK => ?_) AllReadyH.nil
          (try dsimp only at hH5)
          go_simp
          refine (HSM.out _).mono ?_
          rintro e v3 ⟨rfl, hb3⟩
          refine hK.out _ _ (HQ2.out _ (btrans hB (Nat.le_refl _) hb3)) (fun hH6 => ?_)
          clear hK K
          have haL := carry haL hb3
          have hB := btrans hB (Nat.le_refl _) hb3
          have hz3 := hb3.size
          have hBs := hB.size
          (try simp only [Act.put, List.setIfInBounds_toArray, List.set_cons_zero, List.set_cons_succ])
          refine wpAnyH_ready (rs := [17]) (by kernel_rfl) (by simp) ?_
          refine AllReadyH.cons rfl (fun K hK => ?_) AllReadyH.nil
          (try dsimp only at hH6)
          obtain ⟨q0, q1, q2, q3⟩ := cells2 haL
          have hge : wx.heap.size ≤ v1.heap.size := by omega
          go_simp
          refine hK.out _ _ (HQ2.out _ (put2_below (.int .i64 sx) (.int .i64 sy) hB hge)) (fun hH7 => ?_)
          clear hK K
          have haL := put2_same (.int .i64 sx) (.int .i64 sy) haL
          have hB := put2_below (.int .i64 sx) (.int .i64 sy) hB hge
          generalize ((v3.setCell ⟨v1.heap.size, 0, none⟩ (.int .i64 sx)).setCell ⟨v1.heap.size, 1, none⟩ (.int .i64 sy)) = v4 at *
          (try simp only [Act.put, List.setIfInBounds_toArray, List.set_cons_zero, List.set_cons_succ])
          refine wpAnyH_done (by kernel_rfl) ?_ _
          go_wp2_with fail
          go_meet
          exact ⟨_, rfl, haL, hge, hB⟩
      · skip
        (try dsimp only at hH)
        go_simp
        refine hK.out _ _ (HQ2.out _ (hB.alloc hBs (.cells #[.int .i64 0, .int .i64 0] 28))) (fun hH8 => ?_)
        clear hK K
        have haL := heap_alloc_new v0 (.cells #[.int .i64 0, .int .i64 0] 28)
        have hb1 : Below v0.heap.size v0 (v0.alloc (.cells #[.int .i64 0, .int .i64 0] 28)) := (Below.refl _ _).alloc (Nat.le_refl _) (.cells #[.int .i64 0, .int .i64 0] 28)
        have hlL : v0.heap.size < (v0.alloc (.cells #[.int .i64 0, .int .i64 0] 28)).heap.size := by simp
        generalize v0.alloc (.cells #[.int .i64 0, .int .i64 0] 28) = v1 at *
        have hB := btrans hB (Nat.le_refl _) hb1
        have hz1 := hb1.size
        have hBs := hB.size
        (try simp only [Act.put, List.setIfInBounds_toArray, List.set_cons_zero, List.set_cons_succ])
        refine wpAnyH_ready (rs := [12]) (by kernel_rfl) (by simp) ?_
        refine AllReadyH.cons rfl (fun K hK => ?_) AllReadyH.nil
        (try dsimp only at hH8)
        go_simp
        refine (HM2.out _).mono ?_
        rintro e v2 ⟨rfl, hb2⟩
        refine hK.out _ _ (HQ2.out _ (btrans hB (Nat.le_refl _) hb2)) (fun hH9 => ?_)
        clear hK K
        have haL := carry haL hb2
        have hB := btrans hB (Nat.le_refl _) hb2
        have hz2 := hb2.size
        have hBs := hB.size
        (try simp only [Act.put, List.setIfInBounds_toArray, List.set_cons_zero, List.set_cons_succ])
        refine wpAnyH_take (i := 13) (oi := { dst := some 44, op := Go.Op.extract (Go.Operand.tmp 43) 0, type := 28, pos := "contact.go:81", after := #[{ on := 12, ground := Go.Ground.data }], guard := none }) (v := (.agg #[.int .i64 sx, .int .i64 sy])) rfl (by kernel_rfl) (by kernel_rfl) (by kernel_rfl) (fun _ _ _ h => h) (Or.inl ⟨by rfl, ?_⟩) hH9 ?_
        · intro w hSw
          (try dsimp only at hSw)
          go_simp
        (try simp only [Act.put, List.setIfInBounds_toArray, List.set_cons_zero, List.set_cons_succ])
        refine wpAnyH_take (i := 14) (oi := { dst := some 45, op := Go.Op.extract (Go.Operand.tmp 43) 1, type := 33, pos := "contact.go:81", after := #[{ on := 12, ground := Go.Ground.data }], guard := none }) (v := (.int .i64 0)) rfl (by kernel_rfl) (by kernel_rfl) (by kernel_rfl) (fun _ _ _ h => h) (Or.inl ⟨by rfl, ?_⟩) hH9 ?_
        · intro w hSw
          (try dsimp only at hSw)
          go_simp
        (try simp only [Act.put, List.setIfInBounds_toArray, List.set_cons_zero, List.set_cons_succ])
        refine wpAnyH_ready (rs := [15]) (by kernel_rfl) (by simp) ?_
        refine AllReadyH.cons rfl (fun K hK => ?_) AllReadyH.nil
        (try dsimp only at hH9)
        go_simp
        refine (HSM.out _).mono ?_
        rintro e v3 ⟨rfl, hb3⟩
        refine hK.out _ _ (HQ2.out _ (btrans hB (Nat.le_refl _) hb3)) (fun hH10 => ?_)
        clear hK K
        have haL := carry haL hb3
        have hB := btrans hB (Nat.le_refl _) hb3
        have hz3 := hb3.size
        have hBs := hB.size
        (try simp only [Act.put, List.setIfInBounds_toArray, List.set_cons_zero, List.set_cons_succ])
        refine wpAnyH_ready (rs := [17]) (by kernel_rfl) (by simp) ?_
        refine AllReadyH.cons rfl (fun K hK => ?_) AllReadyH.nil
        (try dsimp only at hH10)
        obtain ⟨q0, q1, q2, q3⟩ := cells2 haL
        have hge : wx.heap.size ≤ v0.heap.size := by omega
        go_simp
        refine hK.out _ _ (HQ2.out _ (put2_below (.int .i64 sx) (.int .i64 sy) hB hge)) (fun hH11 => ?_)
        clear hK K
        have haL := put2_same (.int .i64 sx) (.int .i64 sy) haL
        have hB := put2_below (.int .i64 sx) (.int .i64 sy) hB hge
        generalize ((v3.setCell ⟨v0.heap.size, 0, none⟩ (.int .i64 sx)).setCell ⟨v0.heap.size, 1, none⟩ (.int .i64 sy)) = v4 at *
        (try simp only [Act.put, List.setIfInBounds_toArray, List.set_cons_zero, List.set_cons_succ])
        refine wpAnyH_done (by kernel_rfl) ?_ _
        go_wp2_with fail
        go_meet
        exact ⟨_, rfl, haL, hge, hB⟩
    case rest =>
      obtain ⟨B8, rfl, k8, hg8, hb3⟩ := hcut
      obtain ⟨w3, rfl⟩ := nameWx hb3
      obtain ⟨k7, hg7, hb2⟩ := HX.out
      have HB3 := hid (hb2.trans (hb3.mono hb2.size))
      have k7 := carry k7 hb3
      have HK7 := hid k7
      have HG7 := hid hg7
      obtain ⟨i0, i1, -, -⟩ := cells2 k7
      obtain ⟨i2, i3, -, -⟩ := cells2 k8
      clear k7 k8 hg7 hb2 hb3 hg8 HX HQ2
      go_wp2_with fail
      refine (HDT.out _).mono ?_
      rintro e w0 ⟨rfl, hb4⟩
      have HK7 := hid (carry HK7.out hb4)
      have HB4 := hid (HB3.out.trans (hb4.mono HB3.out.size))
      clear hb4 i0 i1 i2 i3 HDT HB3
      go_wp2_with fail
      refine (HJM.out _).mono ?_
      rintro e w4 ⟨rfl, rfl⟩
      by_cases hj : j ≤ 0
      · go_wp2_with fail
        go_ret
        exact .inl ⟨hj, rfl, HB4.out⟩
      · have hj' : 0 < j := by omega
        have HSC := hid (HSC0.out hj')
        have HT := hid (HT0.out hj')
        have H7A := hid (H7A0.out hj')
        have H8A := hid (H8A0.out hj')
        have HJ := hid hj'
        clear hj' HSC0 HT0 H7A0 H8A0
        have HG4 := hid (carry HG0.out HB4.out)
        have HB4S := hid HB4.out.size
        have HQ6 := hid (show ∀ W, Below w4.heap.size w4 W → W.cell? ⟨B7, 0, none⟩ = some (.int .i64 ux) ∧ W.cell? ⟨B7, 1, none⟩ = some (.int .i64 uy) from fun W h => by
          obtain ⟨i0, i1, -, -⟩ := cells2 (carry HK7.out h)
          exact ⟨i0, i1⟩)
        clear HK7 HG7
        go_upto_region 6 with fail
        go_cut [10] (fun a7 wz => ∃ B7, a7 = .pointer (some ⟨B7, 0, none⟩) ∧ wz.heap[B7]? = some (.cells #[.int .i64 px, .int .i64 py] 28 (0, 0)) ∧ w4.heap.size ≤ B7 ∧ Below w4.heap.size w4 wz)
        case first =>
          refine wp_region_held_drew (S := (fun W => W.cell? ⟨B7, 0, none⟩ = some (.int .i64 ux) ∧ W.cell? ⟨B7, 1, none⟩ = some (.int .i64 uy))) (by kernel_rfl) (HQ6.out _ (Below.refl _ _).drew) (fun hH => ?_)
          obtain ⟨v0, hv0⟩ : ∃ v0, v0 = w4.drew := ⟨_, rfl⟩
          have hB : Below w4.heap.size w4 w4.drew := (Below.refl _ _).drew
          have hBs : w4.heap.size ≤ w4.drew.heap.size := Nat.le_refl _
          rw [← hv0] at hB hBs hH ⊢
          clear hv0
          refine wpAnyH_take (i := 0) (oi := { dst := some 55, op := Go.Op.load 28 (Go.Operand.tmp 7), type := 28, pos := "contact.go:86", after := #[], guard := none }) (v := (.agg #[.int .i64 ux, .int .i64 uy])) rfl (by kernel_rfl) (by kernel_rfl) (by kernel_rfl) (fun _ _ _ h => h) (Or.inl ⟨by rfl, ?_⟩) hH ?_
          · intro w hSw
            (try dsimp only at hSw)
            go_simp
          (try simp only [Act.put, List.setIfInBounds_toArray, List.set_cons_zero, List.set_cons_succ])
          refine wpAnyH_take (i := 1) (oi := { dst := some 56, op := Go.Op.move (Go.Operand.tmp 9), type := 22, pos := "contact.go:86", after := #[], guard := none }) (v := (.int .i64 j)) rfl (by kernel_rfl) (by kernel_rfl) (by kernel_rfl) (fun _ _ _ h => h) (Or.inl ⟨by rfl, ?_⟩) hH ?_
          · intro w hSw
            (try dsimp only at hSw)
            go_simp
          (try simp only [Act.put, List.setIfInBounds_toArray, List.set_cons_zero, List.set_cons_succ])
          refine wpAnyH_take (i := 2) (oi := { dst := some 57, op := Go.Op.move (Go.Operand.tmp 2), type := 3, pos := "contact.go:86", after := #[], guard := none }) (v := (.int .i64 el)) rfl (by kernel_rfl) (by kernel_rfl) (by kernel_rfl) (fun _ _ _ h => h) (Or.inl ⟨by rfl, ?_⟩) hH ?_
          · intro w hSw
            (try dsimp only at hSw)
            go_simp
          (try simp only [Act.put, List.setIfInBounds_toArray, List.set_cons_zero, List.set_cons_succ])
          refine wpAnyH_take (i := 3) (oi := { dst := some 58, op := Go.Op.binOp Go.BinOp.add 3 (Go.Operand.const (Go.Value.int Go.IntKind.i64 1000)) (Go.Operand.tmp 57) 3, type := 3, pos := "contact.go:86", after := #[{ on := 2, ground := Go.Ground.data }], guard := none }) (v := (.int .i64 el2)) rfl (by kernel_rfl) (by kernel_rfl) (by kernel_rfl) (fun _ _ _ h => h) (Or.inl ⟨by rfl, ?_⟩) hH ?_
          · intro w hSw
            (try dsimp only at hSw)
            go_simp
          (try simp only [Act.put, List.setIfInBounds_toArray, List.set_cons_zero, List.set_cons_succ])
          refine wpAnyH_ready (rs := [4, 12]) (by kernel_rfl) (by simp) ?_
          refine AllReadyH.cons rfl (fun K hK => ?_) (AllReadyH.cons rfl (fun K hK => ?_) AllReadyH.nil)
          · skip
            (try dsimp only at hH)
            go_simp
            refine (HSC.out _).mono ?_
            rintro e v1 ⟨rfl, hb1⟩
            refine hK.out _ _ (HQ6.out _ (btrans hB (Nat.le_refl _) hb1)) (fun hH1 => ?_)
            clear hK K
            have hB := btrans hB (Nat.le_refl _) hb1
            have hz1 := hb1.size
            have hBs := hB.size
            (try simp only [Act.put, List.setIfInBounds_toArray, List.set_cons_zero, List.set_cons_succ])
            refine wpAnyH_take (i := 5) (oi := { dst := some 60, op := Go.Op.extract (Go.Operand.tmp 59) 0, type := 22, pos := "contact.go:86", after := #[{ on := 4, ground := Go.Ground.data }], guard := none }) (v := (.int .i64 z)) rfl (by kernel_rfl) (by kernel_rfl) (by kernel_rfl) (fun _ _ _ h => h) (Or.inl ⟨by rfl, ?_⟩) hH1 ?_
            · intro w hSw
              (try dsimp only at hSw)
              go_simp
            (try simp only [Act.put, List.setIfInBounds_toArray, List.set_cons_zero, List.set_cons_succ])
            refine wpAnyH_take (i := 6) (oi := { dst := some 61, op := Go.Op.extract (Go.Operand.tmp 59) 1, type := 33, pos := "contact.go:86", after := #[{ on := 4, ground := Go.Ground.data }], guard := none }) (v := (.int .i64 0)) rfl (by kernel_rfl) (by kernel_rfl) (by kernel_rfl) (fun _ _ _ h => h) (Or.inl ⟨by rfl, ?_⟩) hH1 ?_
            · intro w hSw
              (try dsimp only at hSw)
              go_simp
            (try simp only [Act.put, List.setIfInBounds_toArray, List.set_cons_zero, List.set_cons_succ])
            refine wpAnyH_ready (rs := [7, 12]) (by kernel_rfl) (by simp) ?_
            refine AllReadyH.cons rfl (fun K hK => ?_) (AllReadyH.cons rfl (fun K hK => ?_) AllReadyH.nil)
            · skip
              (try dsimp only at hH1)
              go_simp
              refine (HZM.out _).mono ?_
              rintro e v2 ⟨rfl, hb2⟩
              refine hK.out _ _ (HQ6.out _ (btrans hB (Nat.le_refl _) hb2)) (fun hH2 => ?_)
              clear hK K
              have hB := btrans hB (Nat.le_refl _) hb2
              have hz2 := hb2.size
              have hBs := hB.size
              (try simp only [Act.put, List.setIfInBounds_toArray, List.set_cons_zero, List.set_cons_succ])
              refine wpAnyH_ready (rs := [8, 12]) (by kernel_rfl) (by simp) ?_
              refine AllReadyH.cons rfl (fun K hK => ?_) (AllReadyH.cons rfl (fun K hK => ?_) AllReadyH.nil)
              · skip
                (try dsimp only at hH2)
                go_simp
                refine (HT.out _).mono ?_
                rintro e v3 ⟨rfl, hb3⟩
                refine hK.out _ _ (HQ6.out _ (btrans hB (Nat.le_refl _) hb3)) (fun hH3 => ?_)
                clear hK K
                have hB := btrans hB (Nat.le_refl _) hb3
                have hz3 := hb3.size
                have hBs := hB.size
                (try simp only [Act.put, List.setIfInBounds_toArray, List.set_cons_zero, List.set_cons_succ])
                refine wpAnyH_take (i := 9) (oi := { dst := some 64, op := Go.Op.extract (Go.Operand.tmp 63) 0, type := 28, pos := "contact.go:86", after := #[{ on := 8, ground := Go.Ground.data }], guard := none }) (v := (.agg #[.int .i64 px, .int .i64 py])) rfl (by kernel_rfl) (by kernel_rfl) (by kernel_rfl) (fun _ _ _ h => h) (Or.inl ⟨by rfl, ?_⟩) hH3 ?_
                · intro w hSw
                  (try dsimp only at hSw)
                  go_simp
                (try simp only [Act.put, List.setIfInBounds_toArray, List.set_cons_zero, List.set_cons_succ])
                refine wpAnyH_take (i := 10) (oi := { dst := some 65, op := Go.Op.extract (Go.Operand.tmp 63) 1, type := 33, pos := "contact.go:86", after := #[{ on := 8, ground := Go.Ground.data }], guard := none }) (v := (.int .i64 0)) rfl (by kernel_rfl) (by kernel_rfl) (by kernel_rfl) (fun _ _ _ h => h) (Or.inl ⟨by rfl, ?_⟩) hH3 ?_
                · intro w hSw
                  (try dsimp only at hSw)
                  go_simp
                (try simp only [Act.put, List.setIfInBounds_toArray, List.set_cons_zero, List.set_cons_succ])
                refine wpAnyH_ready (rs := [11, 12]) (by kernel_rfl) (by simp) ?_
                refine AllReadyH.cons rfl (fun K hK => ?_) (AllReadyH.cons rfl (fun K hK => ?_) AllReadyH.nil)
                · skip
                  (try dsimp only at hH3)
                  go_simp
                  refine (HPM.out _).mono ?_
                  rintro e v4 ⟨rfl, hb4⟩
                  refine hK.out _ _ (HQ6.out _ (btrans hB (Nat.le_refl _) hb4)) (fun hH4 => ?_)
                  clear hK K
                  have hB := btrans hB (Nat.le_refl _) hb4
                  have hz4 := hb4.size
                  have hBs := hB.size
                  (try simp only [Act.put, List.setIfInBounds_toArray, List.set_cons_zero, List.set_cons_succ])
                  refine wpAnyH_ready (rs := [12]) (by kernel_rfl) (by simp) ?_
                  refine AllReadyH.cons rfl (fun K hK => ?_) AllReadyH.nil
                  (try dsimp only at hH4)
                  go_simp
                  refine hK.out _ _ (HQ6.out _ (hB.alloc hBs (.cells #[.int .i64 0, .int .i64 0] 28))) (fun hH5 => ?_)
                  clear hK K
                  have haL := heap_alloc_new v4 (.cells #[.int .i64 0, .int .i64 0] 28)
                  have hb5 : Below v4.heap.size v4 (v4.alloc (.cells #[.int .i64 0, .int .i64 0] 28)) := (Below.refl _ _).alloc (Nat.le_refl _) (.cells #[.int .i64 0, .int .i64 0] 28)
                  have hlL : v4.heap.size < (v4.alloc (.cells #[.int .i64 0, .int .i64 0] 28)).heap.size := by simp
                  generalize v4.alloc (.cells #[.int .i64 0, .int .i64 0] 28) = v5 at *
                  have hB := btrans hB (Nat.le_refl _) hb5
                  have hz5 := hb5.size
                  have hBs := hB.size
                  (try simp only [Act.put, List.setIfInBounds_toArray, List.set_cons_zero, List.set_cons_succ])
                  refine wpAnyH_ready (rs := [13]) (by kernel_rfl) (by simp) ?_
                  refine AllReadyH.cons rfl (fun K hK => ?_) AllReadyH.nil
                  (try dsimp only at hH5)
                  obtain ⟨q0, q1, q2, q3⟩ := cells2 haL
                  have hge : w4.heap.size ≤ v4.heap.size := by omega
                  go_simp
                  refine hK.out _ _ (HQ6.out _ (put2_below (.int .i64 px) (.int .i64 py) hB hge)) (fun hH6 => ?_)
                  clear hK K
                  have haL := put2_same (.int .i64 px) (.int .i64 py) haL
                  have hB := put2_below (.int .i64 px) (.int .i64 py) hB hge
                  generalize ((v5.setCell ⟨v4.heap.size, 0, none⟩ (.int .i64 px)).setCell ⟨v4.heap.size, 1, none⟩ (.int .i64 py)) = v6 at *
                  (try simp only [Act.put, List.setIfInBounds_toArray, List.set_cons_zero, List.set_cons_succ])
                  refine wpAnyH_done (by kernel_rfl) ?_ _
                  go_wp2_with fail
                  go_meet
                  exact ⟨_, rfl, haL, hge, hB⟩
                · skip
                  (try dsimp only at hH3)
                  go_simp
                  refine hK.out _ _ (HQ6.out _ (hB.alloc hBs (.cells #[.int .i64 0, .int .i64 0] 28))) (fun hH7 => ?_)
                  clear hK K
                  have haL := heap_alloc_new v3 (.cells #[.int .i64 0, .int .i64 0] 28)
                  have hb4 : Below v3.heap.size v3 (v3.alloc (.cells #[.int .i64 0, .int .i64 0] 28)) := (Below.refl _ _).alloc (Nat.le_refl _) (.cells #[.int .i64 0, .int .i64 0] 28)
                  have hlL : v3.heap.size < (v3.alloc (.cells #[.int .i64 0, .int .i64 0] 28)).heap.size := by simp
                  generalize v3.alloc (.cells #[.int .i64 0, .int .i64 0] 28) = v4 at *
                  have hB := btrans hB (Nat.le_refl _) hb4
                  have hz4 := hb4.size
                  have hBs := hB.size
                  (try simp only [Act.put, List.setIfInBounds_toArray, List.set_cons_zero, List.set_cons_succ])
                  refine wpAnyH_ready (rs := [11]) (by kernel_rfl) (by simp) ?_
                  refine AllReadyH.cons rfl (fun K hK => ?_) AllReadyH.nil
                  (try dsimp only at hH7)
                  go_simp
                  refine (HPM.out _).mono ?_
                  rintro e v5 ⟨rfl, hb5⟩
                  refine hK.out _ _ (HQ6.out _ (btrans hB (Nat.le_refl _) hb5)) (fun hH8 => ?_)
                  clear hK K
                  have haL := carry haL hb5
                  have hB := btrans hB (Nat.le_refl _) hb5
                  have hz5 := hb5.size
                  have hBs := hB.size
                  (try simp only [Act.put, List.setIfInBounds_toArray, List.set_cons_zero, List.set_cons_succ])
                  refine wpAnyH_ready (rs := [13]) (by kernel_rfl) (by simp) ?_
                  refine AllReadyH.cons rfl (fun K hK => ?_) AllReadyH.nil
                  (try dsimp only at hH8)
                  obtain ⟨q0, q1, q2, q3⟩ := cells2 haL
                  have hge : w4.heap.size ≤ v3.heap.size := by omega
                  go_simp
                  refine hK.out _ _ (HQ6.out _ (put2_below (.int .i64 px) (.int .i64 py) hB hge)) (fun hH9 => ?_)
                  clear hK K
                  have haL := put2_same (.int .i64 px) (.int .i64 py) haL
                  have hB := put2_below (.int .i64 px) (.int .i64 py) hB hge
                  generalize ((v5.setCell ⟨v3.heap.size, 0, none⟩ (.int .i64 px)).setCell ⟨v3.heap.size, 1, none⟩ (.int .i64 py)) = v6 at *
                  (try simp only [Act.put, List.setIfInBounds_toArray, List.set_cons_zero, List.set_cons_succ])
                  refine wpAnyH_done (by kernel_rfl) ?_ _
                  go_wp2_with fail
                  go_meet
                  exact ⟨_, rfl, haL, hge, hB⟩
              · skip
                (try dsimp only at hH2)
                go_simp
                refine hK.out _ _ (HQ6.out _ (hB.alloc hBs (.cells #[.int .i64 0, .int .i64 0] 28))) (fun hH10 => ?_)
                clear hK K
                have haL := heap_alloc_new v2 (.cells #[.int .i64 0, .int .i64 0] 28)
                have hb3 : Below v2.heap.size v2 (v2.alloc (.cells #[.int .i64 0, .int .i64 0] 28)) := (Below.refl _ _).alloc (Nat.le_refl _) (.cells #[.int .i64 0, .int .i64 0] 28)
                have hlL : v2.heap.size < (v2.alloc (.cells #[.int .i64 0, .int .i64 0] 28)).heap.size := by simp
                generalize v2.alloc (.cells #[.int .i64 0, .int .i64 0] 28) = v3 at *
                have hB := btrans hB (Nat.le_refl _) hb3
                have hz3 := hb3.size
                have hBs := hB.size
                (try simp only [Act.put, List.setIfInBounds_toArray, List.set_cons_zero, List.set_cons_succ])
                refine wpAnyH_ready (rs := [8]) (by kernel_rfl) (by simp) ?_
                refine AllReadyH.cons rfl (fun K hK => ?_) AllReadyH.nil
                (try dsimp only at hH10)
                go_simp
                refine (HT.out _).mono ?_
                rintro e v4 ⟨rfl, hb4⟩
                refine hK.out _ _ (HQ6.out _ (btrans hB (Nat.le_refl _) hb4)) (fun hH11 => ?_)
                clear hK K
                have haL := carry haL hb4
                have hB := btrans hB (Nat.le_refl _) hb4
                have hz4 := hb4.size
                have hBs := hB.size
                (try simp only [Act.put, List.setIfInBounds_toArray, List.set_cons_zero, List.set_cons_succ])
                refine wpAnyH_take (i := 9) (oi := { dst := some 64, op := Go.Op.extract (Go.Operand.tmp 63) 0, type := 28, pos := "contact.go:86", after := #[{ on := 8, ground := Go.Ground.data }], guard := none }) (v := (.agg #[.int .i64 px, .int .i64 py])) rfl (by kernel_rfl) (by kernel_rfl) (by kernel_rfl) (fun _ _ _ h => h) (Or.inl ⟨by rfl, ?_⟩) hH11 ?_
                · intro w hSw
                  (try dsimp only at hSw)
                  go_simp
                (try simp only [Act.put, List.setIfInBounds_toArray, List.set_cons_zero, List.set_cons_succ])
                refine wpAnyH_take (i := 10) (oi := { dst := some 65, op := Go.Op.extract (Go.Operand.tmp 63) 1, type := 33, pos := "contact.go:86", after := #[{ on := 8, ground := Go.Ground.data }], guard := none }) (v := (.int .i64 0)) rfl (by kernel_rfl) (by kernel_rfl) (by kernel_rfl) (fun _ _ _ h => h) (Or.inl ⟨by rfl, ?_⟩) hH11 ?_
                · intro w hSw
                  (try dsimp only at hSw)
                  go_simp
                (try simp only [Act.put, List.setIfInBounds_toArray, List.set_cons_zero, List.set_cons_succ])
                refine wpAnyH_ready (rs := [11]) (by kernel_rfl) (by simp) ?_
                refine AllReadyH.cons rfl (fun K hK => ?_) AllReadyH.nil
                (try dsimp only at hH11)
                go_simp
                refine (HPM.out _).mono ?_
                rintro e v5 ⟨rfl, hb5⟩
                refine hK.out _ _ (HQ6.out _ (btrans hB (Nat.le_refl _) hb5)) (fun hH12 => ?_)
                clear hK K
                have haL := carry haL hb5
                have hB := btrans hB (Nat.le_refl _) hb5
                have hz5 := hb5.size
                have hBs := hB.size
                (try simp only [Act.put, List.setIfInBounds_toArray, List.set_cons_zero, List.set_cons_succ])
                refine wpAnyH_ready (rs := [13]) (by kernel_rfl) (by simp) ?_
                refine AllReadyH.cons rfl (fun K hK => ?_) AllReadyH.nil
                (try dsimp only at hH12)
                obtain ⟨q0, q1, q2, q3⟩ := cells2 haL
                have hge : w4.heap.size ≤ v2.heap.size := by omega
                go_simp
                refine hK.out _ _ (HQ6.out _ (put2_below (.int .i64 px) (.int .i64 py) hB hge)) (fun hH13 => ?_)
                clear hK K
                have haL := put2_same (.int .i64 px) (.int .i64 py) haL
                have hB := put2_below (.int .i64 px) (.int .i64 py) hB hge
                generalize ((v5.setCell ⟨v2.heap.size, 0, none⟩ (.int .i64 px)).setCell ⟨v2.heap.size, 1, none⟩ (.int .i64 py)) = v6 at *
                (try simp only [Act.put, List.setIfInBounds_toArray, List.set_cons_zero, List.set_cons_succ])
                refine wpAnyH_done (by kernel_rfl) ?_ _
                go_wp2_with fail
                go_meet
                exact ⟨_, rfl, haL, hge, hB⟩
            · skip
              (try dsimp only at hH1)
              go_simp
              refine hK.out _ _ (HQ6.out _ (hB.alloc hBs (.cells #[.int .i64 0, .int .i64 0] 28))) (fun hH14 => ?_)
              clear hK K
              have haL := heap_alloc_new v1 (.cells #[.int .i64 0, .int .i64 0] 28)
              have hb2 : Below v1.heap.size v1 (v1.alloc (.cells #[.int .i64 0, .int .i64 0] 28)) := (Below.refl _ _).alloc (Nat.le_refl _) (.cells #[.int .i64 0, .int .i64 0] 28)
              have hlL : v1.heap.size < (v1.alloc (.cells #[.int .i64 0, .int .i64 0] 28)).heap.size := by simp
              generalize v1.alloc (.cells #[.int .i64 0, .int .i64 0] 28) = v2 at *
              have hB := btrans hB (Nat.le_refl _) hb2
              have hz2 := hb2.size
              have hBs := hB.size
              (try simp only [Act.put, List.setIfInBounds_toArray, List.set_cons_zero, List.set_cons_succ])
              refine wpAnyH_ready (rs := [7]) (by kernel_rfl) (by simp) ?_
              refine AllReadyH.cons rfl (fun K hK => ?_) AllReadyH.nil
              (try dsimp only at hH14)
              go_simp
              refine (HZM.out _).mono ?_
              rintro e v3 ⟨rfl, hb3⟩
              refine hK.out _ _ (HQ6.out _ (btrans hB (Nat.le_refl _) hb3)) (fun hH15 => ?_)
              clear hK K
              have haL := carry haL hb3
              have hB := btrans hB (Nat.le_refl _) hb3
              have hz3 := hb3.size
              have hBs := hB.size
              (try simp only [Act.put, List.setIfInBounds_toArray, List.set_cons_zero, List.set_cons_succ])
              refine wpAnyH_ready (rs := [8]) (by kernel_rfl) (by simp) ?_
              refine AllReadyH.cons rfl (fun K hK => ?_) AllReadyH.nil
              (try dsimp only at hH15)
              go_simp
              refine (HT.out _).mono ?_
              rintro e v4 ⟨rfl, hb4⟩
              refine hK.out _ _ (HQ6.out _ (btrans hB (Nat.le_refl _) hb4)) (fun hH16 => ?_)
              clear hK K
              have haL := carry haL hb4
              have hB := btrans hB (Nat.le_refl _) hb4
              have hz4 := hb4.size
              have hBs := hB.size
              (try simp only [Act.put, List.setIfInBounds_toArray, List.set_cons_zero, List.set_cons_succ])
              refine wpAnyH_take (i := 9) (oi := { dst := some 64, op := Go.Op.extract (Go.Operand.tmp 63) 0, type := 28, pos := "contact.go:86", after := #[{ on := 8, ground := Go.Ground.data }], guard := none }) (v := (.agg #[.int .i64 px, .int .i64 py])) rfl (by kernel_rfl) (by kernel_rfl) (by kernel_rfl) (fun _ _ _ h => h) (Or.inl ⟨by rfl, ?_⟩) hH16 ?_
              · intro w hSw
                (try dsimp only at hSw)
                go_simp
              (try simp only [Act.put, List.setIfInBounds_toArray, List.set_cons_zero, List.set_cons_succ])
              refine wpAnyH_take (i := 10) (oi := { dst := some 65, op := Go.Op.extract (Go.Operand.tmp 63) 1, type := 33, pos := "contact.go:86", after := #[{ on := 8, ground := Go.Ground.data }], guard := none }) (v := (.int .i64 0)) rfl (by kernel_rfl) (by kernel_rfl) (by kernel_rfl) (fun _ _ _ h => h) (Or.inl ⟨by rfl, ?_⟩) hH16 ?_
              · intro w hSw
                (try dsimp only at hSw)
                go_simp
              (try simp only [Act.put, List.setIfInBounds_toArray, List.set_cons_zero, List.set_cons_succ])
              refine wpAnyH_ready (rs := [11]) (by kernel_rfl) (by simp) ?_
              refine AllReadyH.cons rfl (fun K hK => ?_) AllReadyH.nil
              (try dsimp only at hH16)
              go_simp
              refine (HPM.out _).mono ?_
              rintro e v5 ⟨rfl, hb5⟩
              refine hK.out _ _ (HQ6.out _ (btrans hB (Nat.le_refl _) hb5)) (fun hH17 => ?_)
              clear hK K
              have haL := carry haL hb5
              have hB := btrans hB (Nat.le_refl _) hb5
              have hz5 := hb5.size
              have hBs := hB.size
              (try simp only [Act.put, List.setIfInBounds_toArray, List.set_cons_zero, List.set_cons_succ])
              refine wpAnyH_ready (rs := [13]) (by kernel_rfl) (by simp) ?_
              refine AllReadyH.cons rfl (fun K hK => ?_) AllReadyH.nil
              (try dsimp only at hH17)
              obtain ⟨q0, q1, q2, q3⟩ := cells2 haL
              have hge : w4.heap.size ≤ v1.heap.size := by omega
              go_simp
              refine hK.out _ _ (HQ6.out _ (put2_below (.int .i64 px) (.int .i64 py) hB hge)) (fun hH18 => ?_)
              clear hK K
              have haL := put2_same (.int .i64 px) (.int .i64 py) haL
              have hB := put2_below (.int .i64 px) (.int .i64 py) hB hge
              generalize ((v5.setCell ⟨v1.heap.size, 0, none⟩ (.int .i64 px)).setCell ⟨v1.heap.size, 1, none⟩ (.int .i64 py)) = v6 at *
              (try simp only [Act.put, List.setIfInBounds_toArray, List.set_cons_zero, List.set_cons_succ])
              refine wpAnyH_done (by kernel_rfl) ?_ _
              go_wp2_with fail
              go_meet
              exact ⟨_, rfl, haL, hge, hB⟩
          · skip
            (try dsimp only at hH)
            go_simp
            refine hK.out _ _ (HQ6.out _ (hB.alloc hBs (.cells #[.int .i64 0, .int .i64 0] 28))) (fun hH19 => ?_)
            clear hK K
            have haL := heap_alloc_new v0 (.cells #[.int .i64 0, .int .i64 0] 28)
            have hb1 : Below v0.heap.size v0 (v0.alloc (.cells #[.int .i64 0, .int .i64 0] 28)) := (Below.refl _ _).alloc (Nat.le_refl _) (.cells #[.int .i64 0, .int .i64 0] 28)
            have hlL : v0.heap.size < (v0.alloc (.cells #[.int .i64 0, .int .i64 0] 28)).heap.size := by simp
            generalize v0.alloc (.cells #[.int .i64 0, .int .i64 0] 28) = v1 at *
            have hB := btrans hB (Nat.le_refl _) hb1
            have hz1 := hb1.size
            have hBs := hB.size
            (try simp only [Act.put, List.setIfInBounds_toArray, List.set_cons_zero, List.set_cons_succ])
            refine wpAnyH_ready (rs := [4]) (by kernel_rfl) (by simp) ?_
            refine AllReadyH.cons rfl (fun K hK => ?_) AllReadyH.nil
            (try dsimp only at hH19)
            go_simp
            refine (HSC.out _).mono ?_
            rintro e v2 ⟨rfl, hb2⟩
            refine hK.out _ _ (HQ6.out _ (btrans hB (Nat.le_refl _) hb2)) (fun hH20 => ?_)
            clear hK K
            have haL := carry haL hb2
            have hB := btrans hB (Nat.le_refl _) hb2
            have hz2 := hb2.size
            have hBs := hB.size
            (try simp only [Act.put, List.setIfInBounds_toArray, List.set_cons_zero, List.set_cons_succ])
            refine wpAnyH_take (i := 5) (oi := { dst := some 60, op := Go.Op.extract (Go.Operand.tmp 59) 0, type := 22, pos := "contact.go:86", after := #[{ on := 4, ground := Go.Ground.data }], guard := none }) (v := (.int .i64 z)) rfl (by kernel_rfl) (by kernel_rfl) (by kernel_rfl) (fun _ _ _ h => h) (Or.inl ⟨by rfl, ?_⟩) hH20 ?_
            · intro w hSw
              (try dsimp only at hSw)
              go_simp
            (try simp only [Act.put, List.setIfInBounds_toArray, List.set_cons_zero, List.set_cons_succ])
            refine wpAnyH_take (i := 6) (oi := { dst := some 61, op := Go.Op.extract (Go.Operand.tmp 59) 1, type := 33, pos := "contact.go:86", after := #[{ on := 4, ground := Go.Ground.data }], guard := none }) (v := (.int .i64 0)) rfl (by kernel_rfl) (by kernel_rfl) (by kernel_rfl) (fun _ _ _ h => h) (Or.inl ⟨by rfl, ?_⟩) hH20 ?_
            · intro w hSw
              (try dsimp only at hSw)
              go_simp
            (try simp only [Act.put, List.setIfInBounds_toArray, List.set_cons_zero, List.set_cons_succ])
            refine wpAnyH_ready (rs := [7]) (by kernel_rfl) (by simp) ?_
            refine AllReadyH.cons rfl (fun K hK => ?_) AllReadyH.nil
            (try dsimp only at hH20)
            go_simp
            refine (HZM.out _).mono ?_
            rintro e v3 ⟨rfl, hb3⟩
            refine hK.out _ _ (HQ6.out _ (btrans hB (Nat.le_refl _) hb3)) (fun hH21 => ?_)
            clear hK K
            have haL := carry haL hb3
            have hB := btrans hB (Nat.le_refl _) hb3
            have hz3 := hb3.size
            have hBs := hB.size
            (try simp only [Act.put, List.setIfInBounds_toArray, List.set_cons_zero, List.set_cons_succ])
            refine wpAnyH_ready (rs := [8]) (by kernel_rfl) (by simp) ?_
            refine AllReadyH.cons rfl (fun K hK => ?_) AllReadyH.nil
            (try dsimp only at hH21)
            go_simp
            refine (HT.out _).mono ?_
            rintro e v4 ⟨rfl, hb4⟩
            refine hK.out _ _ (HQ6.out _ (btrans hB (Nat.le_refl _) hb4)) (fun hH22 => ?_)
            clear hK K
            have haL := carry haL hb4
            have hB := btrans hB (Nat.le_refl _) hb4
            have hz4 := hb4.size
            have hBs := hB.size
            (try simp only [Act.put, List.setIfInBounds_toArray, List.set_cons_zero, List.set_cons_succ])
            refine wpAnyH_take (i := 9) (oi := { dst := some 64, op := Go.Op.extract (Go.Operand.tmp 63) 0, type := 28, pos := "contact.go:86", after := #[{ on := 8, ground := Go.Ground.data }], guard := none }) (v := (.agg #[.int .i64 px, .int .i64 py])) rfl (by kernel_rfl) (by kernel_rfl) (by kernel_rfl) (fun _ _ _ h => h) (Or.inl ⟨by rfl, ?_⟩) hH22 ?_
            · intro w hSw
              (try dsimp only at hSw)
              go_simp
            (try simp only [Act.put, List.setIfInBounds_toArray, List.set_cons_zero, List.set_cons_succ])
            refine wpAnyH_take (i := 10) (oi := { dst := some 65, op := Go.Op.extract (Go.Operand.tmp 63) 1, type := 33, pos := "contact.go:86", after := #[{ on := 8, ground := Go.Ground.data }], guard := none }) (v := (.int .i64 0)) rfl (by kernel_rfl) (by kernel_rfl) (by kernel_rfl) (fun _ _ _ h => h) (Or.inl ⟨by rfl, ?_⟩) hH22 ?_
            · intro w hSw
              (try dsimp only at hSw)
              go_simp
            (try simp only [Act.put, List.setIfInBounds_toArray, List.set_cons_zero, List.set_cons_succ])
            refine wpAnyH_ready (rs := [11]) (by kernel_rfl) (by simp) ?_
            refine AllReadyH.cons rfl (fun K hK => ?_) AllReadyH.nil
            (try dsimp only at hH22)
            go_simp
            refine (HPM.out _).mono ?_
            rintro e v5 ⟨rfl, hb5⟩
            refine hK.out _ _ (HQ6.out _ (btrans hB (Nat.le_refl _) hb5)) (fun hH23 => ?_)
            clear hK K
            have haL := carry haL hb5
            have hB := btrans hB (Nat.le_refl _) hb5
            have hz5 := hb5.size
            have hBs := hB.size
            (try simp only [Act.put, List.setIfInBounds_toArray, List.set_cons_zero, List.set_cons_succ])
            refine wpAnyH_ready (rs := [13]) (by kernel_rfl) (by simp) ?_
            refine AllReadyH.cons rfl (fun K hK => ?_) AllReadyH.nil
            (try dsimp only at hH23)
            obtain ⟨q0, q1, q2, q3⟩ := cells2 haL
            have hge : w4.heap.size ≤ v0.heap.size := by omega
            go_simp
            refine hK.out _ _ (HQ6.out _ (put2_below (.int .i64 px) (.int .i64 py) hB hge)) (fun hH24 => ?_)
            clear hK K
            have haL := put2_same (.int .i64 px) (.int .i64 py) haL
            have hB := put2_below (.int .i64 px) (.int .i64 py) hB hge
            generalize ((v5.setCell ⟨v0.heap.size, 0, none⟩ (.int .i64 px)).setCell ⟨v0.heap.size, 1, none⟩ (.int .i64 py)) = v6 at *
            (try simp only [Act.put, List.setIfInBounds_toArray, List.set_cons_zero, List.set_cons_succ])
            refine wpAnyH_done (by kernel_rfl) ?_ _
            go_wp2_with fail
            go_meet
            exact ⟨_, rfl, haL, hge, hB⟩
        case rest =>
          obtain ⟨B10, rfl, k10, hg10, hb3⟩ := hcut
          obtain ⟨w6, rfl⟩ := nameWx hb3
          have HG := hid (carry HG4.out hb3)
          have HCH := hid (show Ch (fun k => k = g) w w6 from Ch.of_below (HB4.out.trans (hb3.mono HB4.out.size)))
          have hB10 : B10 ≠ g := by
            have := HGL.out
            have := HB4S.out
            omega
          have HS7 := hid (show ∀ W, Below w6.heap.size w6 W → W.heap[B10]? = some (.cells #[.int .i64 px, .int .i64 py] 28 (0, 0)) ∧ W.cell? ⟨B10, 0, none⟩ = some (.int .i64 px) ∧ W.cell? ⟨B10, 1, none⟩ = some (.int .i64 py) from fun W h => by
            have hx := carry k10 h
            exact ⟨hx, cellN hx rfl, cellN hx rfl⟩)
          clear k10 hg10 hb3 HQ6 HG4 HB4 HG0
          go_upto_region 7 with fail
          refine wp_region_held_drew (S := (fun W => W.heap[B10]? = some (.cells #[.int .i64 px, .int .i64 py] 28 (0, 0)) ∧ W.cell? ⟨B10, 0, none⟩ = some (.int .i64 px) ∧ W.cell? ⟨B10, 1, none⟩ = some (.int .i64 py))) (by kernel_rfl) (HS7.out _ (Below.refl _ _).drew) (fun hH => ?_)
          refine wpAnyH_take (i := 0) (oi := { dst := some 67, op := Go.Op.move (Go.Operand.tmp 0), type := 179, pos := "contact.go:87", after := #[], guard := none }) (v := (.pointer (some ⟨g, oa, none⟩))) rfl (by kernel_rfl) (by kernel_rfl) (by kernel_rfl) (fun _ _ _ h => h) (Or.inl ⟨by rfl, ?_⟩) hH ?_
          · intro w hSw
            (try dsimp only at hSw)
            go_simp
          (try simp only [Act.put, List.setIfInBounds_toArray, List.set_cons_zero, List.set_cons_succ])
          refine wpAnyH_take (i := 1) (oi := { dst := some 68, op := Go.Op.move (Go.Operand.tmp 0), type := 179, pos := "contact.go:87", after := #[], guard := none }) (v := (.pointer (some ⟨g, oa, none⟩))) rfl (by kernel_rfl) (by kernel_rfl) (by kernel_rfl) (fun _ _ _ h => h) (Or.inl ⟨by rfl, ?_⟩) hH ?_
          · intro w hSw
            (try dsimp only at hSw)
            go_simp
          (try simp only [Act.put, List.setIfInBounds_toArray, List.set_cons_zero, List.set_cons_succ])
          refine wpAnyH_take (i := 2) (oi := { dst := some 69, op := Go.Op.nilCheck (Go.Operand.tmp 68), type := 0, pos := "contact.go:87", after := #[{ on := 1, ground := Go.Ground.data }], guard := none }) (v := (.pointer (some ⟨g, oa, none⟩))) rfl (by kernel_rfl) (by kernel_rfl) (by kernel_rfl) (fun _ _ _ h => h) (Or.inl ⟨by rfl, ?_⟩) hH ?_
          · intro w hSw
            (try dsimp only at hSw)
            go_simp
          (try simp only [Act.put, List.setIfInBounds_toArray, List.set_cons_zero, List.set_cons_succ])
          refine wpAnyH_take (i := 3) (oi := { dst := some 70, op := Go.Op.fieldAddr 174 (Go.Operand.tmp 69) 0, type := 0, pos := "contact.go:87", after := #[{ on := 2, ground := Go.Ground.data }], guard := none }) (v := (.pointer (some ⟨g, oa, none⟩))) rfl (by kernel_rfl) (by kernel_rfl) (by kernel_rfl) (fun _ _ _ h => h) (Or.inl ⟨by rfl, ?_⟩) hH ?_
          · intro w hSw
            (try dsimp only at hSw)
            go_simp
          (try simp only [Act.put, List.setIfInBounds_toArray, List.set_cons_zero, List.set_cons_succ])
          refine wpAnyH_take (i := 4) (oi := { dst := some 71, op := Go.Op.fieldAddr 72 (Go.Operand.tmp 70) 2, type := 0, pos := "contact.go:87", after := #[{ on := 3, ground := Go.Ground.data }], guard := none }) (v := (.pointer (some ⟨g, oa + 2, none⟩))) rfl (by kernel_rfl) (by kernel_rfl) (by kernel_rfl) (fun _ _ _ h => h) (Or.inl ⟨by rfl, ?_⟩) hH ?_
          · intro w hSw
            (try dsimp only at hSw)
            go_simp
          (try simp only [Act.put, List.setIfInBounds_toArray, List.set_cons_zero, List.set_cons_succ])
          refine wpAnyH_take (i := 5) (oi := { dst := some 72, op := Go.Op.fieldAddr 39 (Go.Operand.tmp 71) 1, type := 0, pos := "contact.go:87", after := #[{ on := 4, ground := Go.Ground.data }], guard := none }) (v := (.pointer (some ⟨g, oa + 4, none⟩))) rfl (by kernel_rfl) (by kernel_rfl) (by kernel_rfl) (fun _ _ _ h => h) (Or.inl ⟨by rfl, ?_⟩) hH ?_
          · intro w hSw
            (try dsimp only at hSw)
            go_simp
          (try simp only [Act.put, List.setIfInBounds_toArray, List.set_cons_zero, List.set_cons_succ])
          refine wpAnyH_take (i := 7) (oi := { dst := some 74, op := Go.Op.load 28 (Go.Operand.tmp 10), type := 28, pos := "contact.go:87", after := #[], guard := none }) (v := (.agg #[.int .i64 px, .int .i64 py])) rfl (by kernel_rfl) (by kernel_rfl) (by kernel_rfl) (fun _ _ _ h => h) (Or.inl ⟨by rfl, ?_⟩) hH ?_
          · intro w hSw
            (try dsimp only at hSw)
            go_simp
          (try simp only [Act.put, List.setIfInBounds_toArray, List.set_cons_zero, List.set_cons_succ])
          refine wpAnyH_ready (rs := [6]) (by kernel_rfl) (by simp) ?_
          refine AllReadyH.cons rfl (fun K hK => ?_) AllReadyH.nil
          (try dsimp only at hH)
          have hgx := carry HG.out ((Below.refl w6.heap.size w6).drew)
          have m4 : w6.drew.cell? ⟨g, oa + 4, none⟩ = some (.int .i64 avx) := cellN hgx ka4
          have m5 : w6.drew.cell? ⟨g, oa + 5, none⟩ = some (.int .i64 avy) := cellN hgx ka5
          go_simp
          refine hK.out _ _ (HS7.out _ (Below.refl _ _).drew) (fun hH1 => ?_)
          clear hK K
          (try simp only [Act.put, List.setIfInBounds_toArray, List.set_cons_zero, List.set_cons_succ])
          refine wpAnyH_ready (rs := [8]) (by kernel_rfl) (by simp) ?_
          refine AllReadyH.cons rfl (fun K hK => ?_) AllReadyH.nil
          (try dsimp only at hH1)
          clear m4 m5
          go_simp
          refine (H7A.out _).mono ?_
          rintro e u1 ⟨rfl, hb1⟩
          refine hK.out _ _ (HS7.out _ (btrans (Below.refl _ _).drew (Nat.le_refl _) hb1)) (fun hH2 => ?_)
          clear hK K
          (try simp only [Act.put, List.setIfInBounds_toArray, List.set_cons_zero, List.set_cons_succ])
          refine wpAnyH_take (i := 9) (oi := { dst := some 76, op := Go.Op.extract (Go.Operand.tmp 75) 0, type := 28, pos := "contact.go:87", after := #[{ on := 8, ground := Go.Ground.data }], guard := none }) (v := (.agg #[.int .i64 cx, .int .i64 cy])) rfl (by kernel_rfl) (by kernel_rfl) (by kernel_rfl) (fun _ _ _ h => h) (Or.inl ⟨by rfl, ?_⟩) hH2 ?_
          · intro w hSw
            (try dsimp only at hSw)
            go_simp
          (try simp only [Act.put, List.setIfInBounds_toArray, List.set_cons_zero, List.set_cons_succ])
          refine wpAnyH_take (i := 10) (oi := { dst := some 77, op := Go.Op.extract (Go.Operand.tmp 75) 1, type := 33, pos := "contact.go:87", after := #[{ on := 8, ground := Go.Ground.data }], guard := none }) (v := (.int .i64 0)) rfl (by kernel_rfl) (by kernel_rfl) (by kernel_rfl) (fun _ _ _ h => h) (Or.inl ⟨by rfl, ?_⟩) hH2 ?_
          · intro w hSw
            (try dsimp only at hSw)
            go_simp
          (try simp only [Act.put, List.setIfInBounds_toArray, List.set_cons_zero, List.set_cons_succ])
          refine wpAnyH_ready (rs := [11]) (by kernel_rfl) (by simp) ?_
          refine AllReadyH.cons rfl (fun K hK => ?_) AllReadyH.nil
          (try dsimp only at hH2)
          go_simp
          refine (H7M.out _).mono ?_
          rintro e u2 ⟨rfl, hb2⟩
          refine hK.out _ _ (HS7.out _ (btrans (btrans (Below.refl _ _).drew (Nat.le_refl _) hb1) (Nat.le_refl _) hb2)) (fun hH3 => ?_)
          clear hK K
          (try simp only [Act.put, List.setIfInBounds_toArray, List.set_cons_zero, List.set_cons_succ])
          refine wpAnyH_take (i := 12) (oi := { dst := some 79, op := Go.Op.nilCheck (Go.Operand.tmp 67), type := 0, pos := "contact.go:87", after := #[{ on := 0, ground := Go.Ground.data }, { on := 0, ground := Go.Ground.phase }, { on := 1, ground := Go.Ground.phase }, { on := 2, ground := Go.Ground.phase }, { on := 3, ground := Go.Ground.phase }, { on := 4, ground := Go.Ground.phase }, { on := 5, ground := Go.Ground.phase }, { on := 6, ground := Go.Ground.phase }, { on := 7, ground := Go.Ground.phase }, { on := 8, ground := Go.Ground.phase }, { on := 9, ground := Go.Ground.phase }, { on := 10, ground := Go.Ground.phase }, { on := 11, ground := Go.Ground.phase }], guard := none }) (v := (.pointer (some ⟨g, oa, none⟩))) rfl (by kernel_rfl) (by kernel_rfl) (by kernel_rfl) (fun _ _ _ h => h) (Or.inl ⟨by rfl, ?_⟩) hH3 ?_
          · intro w hSw
            (try dsimp only at hSw)
            go_simp
          (try simp only [Act.put, List.setIfInBounds_toArray, List.set_cons_zero, List.set_cons_succ])
          refine wpAnyH_take (i := 13) (oi := { dst := some 80, op := Go.Op.fieldAddr 174 (Go.Operand.tmp 79) 0, type := 0, pos := "contact.go:87", after := #[{ on := 12, ground := Go.Ground.data }, { on := 0, ground := Go.Ground.phase }, { on := 1, ground := Go.Ground.phase }, { on := 2, ground := Go.Ground.phase }, { on := 3, ground := Go.Ground.phase }, { on := 4, ground := Go.Ground.phase }, { on := 5, ground := Go.Ground.phase }, { on := 6, ground := Go.Ground.phase }, { on := 7, ground := Go.Ground.phase }, { on := 8, ground := Go.Ground.phase }, { on := 9, ground := Go.Ground.phase }, { on := 10, ground := Go.Ground.phase }, { on := 11, ground := Go.Ground.phase }], guard := none }) (v := (.pointer (some ⟨g, oa, none⟩))) rfl (by kernel_rfl) (by kernel_rfl) (by kernel_rfl) (fun _ _ _ h => h) (Or.inl ⟨by rfl, ?_⟩) hH3 ?_
          · intro w hSw
            (try dsimp only at hSw)
            go_simp
          (try simp only [Act.put, List.setIfInBounds_toArray, List.set_cons_zero, List.set_cons_succ])
          refine wpAnyH_take (i := 14) (oi := { dst := some 81, op := Go.Op.fieldAddr 72 (Go.Operand.tmp 80) 2, type := 0, pos := "contact.go:87", after := #[{ on := 13, ground := Go.Ground.data }, { on := 0, ground := Go.Ground.phase }, { on := 1, ground := Go.Ground.phase }, { on := 2, ground := Go.Ground.phase }, { on := 3, ground := Go.Ground.phase }, { on := 4, ground := Go.Ground.phase }, { on := 5, ground := Go.Ground.phase }, { on := 6, ground := Go.Ground.phase }, { on := 7, ground := Go.Ground.phase }, { on := 8, ground := Go.Ground.phase }, { on := 9, ground := Go.Ground.phase }, { on := 10, ground := Go.Ground.phase }, { on := 11, ground := Go.Ground.phase }], guard := none }) (v := (.pointer (some ⟨g, oa + 2, none⟩))) rfl (by kernel_rfl) (by kernel_rfl) (by kernel_rfl) (fun _ _ _ h => h) (Or.inl ⟨by rfl, ?_⟩) hH3 ?_
          · intro w hSw
            (try dsimp only at hSw)
            go_simp
          (try simp only [Act.put, List.setIfInBounds_toArray, List.set_cons_zero, List.set_cons_succ])
          refine wpAnyH_take (i := 15) (oi := { dst := some 82, op := Go.Op.fieldAddr 39 (Go.Operand.tmp 81) 1, type := 0, pos := "contact.go:87", after := #[{ on := 14, ground := Go.Ground.data }, { on := 0, ground := Go.Ground.phase }, { on := 1, ground := Go.Ground.phase }, { on := 2, ground := Go.Ground.phase }, { on := 3, ground := Go.Ground.phase }, { on := 4, ground := Go.Ground.phase }, { on := 5, ground := Go.Ground.phase }, { on := 6, ground := Go.Ground.phase }, { on := 7, ground := Go.Ground.phase }, { on := 8, ground := Go.Ground.phase }, { on := 9, ground := Go.Ground.phase }, { on := 10, ground := Go.Ground.phase }, { on := 11, ground := Go.Ground.phase }], guard := none }) (v := (.pointer (some ⟨g, oa + 4, none⟩))) rfl (by kernel_rfl) (by kernel_rfl) (by kernel_rfl) (fun _ _ _ h => h) (Or.inl ⟨by rfl, ?_⟩) hH3 ?_
          · intro w hSw
            (try dsimp only at hSw)
            go_simp
          (try simp only [Act.put, List.setIfInBounds_toArray, List.set_cons_zero, List.set_cons_succ])
          refine wpAnyH_ready (rs := [16]) (by kernel_rfl) (by simp) ?_
          refine AllReadyH.cons rfl (fun K hK => ?_) AllReadyH.nil
          (try dsimp only at hH3)
          have hgy := carry hgx (btrans ((Below.refl _ _)) (Nat.le_refl _) (hb1.trans (hb2.mono hb1.size)))
          have m4 : u2.cell? ⟨g, oa + 4, none⟩ = some (.int .i64 avx) := cellN hgy ka4
          have m5 : u2.cell? ⟨g, oa + 5, none⟩ = some (.int .i64 avy) := cellN hgy ka5
          have f4 : u2.frozen? ⟨g, oa + 4, none⟩ = false := frozN hgy
          have f5 : u2.frozen? ⟨g, oa + 5, none⟩ = false := frozN hgy
          go_simp
          refine hK.out _ _ (put_s7 (by assumption) hH3) (fun hH4 => ?_)
          clear hK K
          (try simp only [Act.put, List.setIfInBounds_toArray, List.set_cons_zero, List.set_cons_succ])
          refine wpAnyH_done (by kernel_rfl) ?_ _
          go_upto_region 8 with fail
          have HG1 := hid (setV_heap (o := oa) hgy cx cy)
          have HCH1 := hid (set2_ch (S := fun k => k = g) (b := g) (i := oa + 4) (j := oa + 5) rfl (.int .i64 cx) (.int .i64 cy) (HCH.out.trans (Ch.of_below (btrans (btrans (Below.refl w6.heap.size w6).drew (Nat.le_refl _) hb1) (Nat.le_refl _) hb2))))
          have HS7 := hid (show ∀ W, Below ((u2.setCell ⟨g, oa + 4, none⟩ (.int .i64 cx)).setCell ⟨g, oa + 5, none⟩ (.int .i64 cy)).heap.size ((u2.setCell ⟨g, oa + 4, none⟩ (.int .i64 cx)).setCell ⟨g, oa + 5, none⟩ (.int .i64 cy)) W → W.heap[B10]? = some (.cells #[.int .i64 px, .int .i64 py] 28 (0, 0)) ∧ W.cell? ⟨B10, 0, none⟩ = some (.int .i64 px) ∧ W.cell? ⟨B10, 1, none⟩ = some (.int .i64 py) from fun W h => by
            have hx := carry hH4.1 h
            exact ⟨hx, cellN hx rfl, cellN hx rfl⟩)
          clear m4 m5 f4 f5 hgy hgx hb1 hb2 hH hH1 hH2 hH3 hH4 HG HCH
          generalize ((u2.setCell ⟨g, oa + 4, none⟩ (.int .i64 cx)).setCell ⟨g, oa + 5, none⟩ (.int .i64 cy)) = w7 at *
          have HG := HG1
          have HCH := HCH1
          have hb0 := HRB.out.other (p := oa) (by have := HDJ.out; omega) cx cy
          have kb4 : (setV cur oa cx cy)[ob + 4]? = some (.int .i64 bvx) := hb0 4 (by omega)
          have kb5 : (setV cur oa cx cy)[ob + 5]? = some (.int .i64 bvy) := hb0 5 (by omega)
          have hra := (HRA.out.same cx cy).other (p := ob) HDJ.out ex ey
          have hrb := hb0.same ex ey
          have HRA2 := hid hra
          have HRB2 := hid hrb
          clear hb0 hra hrb HG1 HCH1
          refine wp_region_held_drew (S := (fun W => W.heap[B10]? = some (.cells #[.int .i64 px, .int .i64 py] 28 (0, 0)) ∧ W.cell? ⟨B10, 0, none⟩ = some (.int .i64 px) ∧ W.cell? ⟨B10, 1, none⟩ = some (.int .i64 py))) (by kernel_rfl) (HS7.out _ (Below.refl _ _).drew) (fun hH => ?_)
          refine wpAnyH_take (i := 0) (oi := { dst := some 83, op := Go.Op.move (Go.Operand.tmp 1), type := 179, pos := "contact.go:88", after := #[], guard := none }) (v := (.pointer (some ⟨g, ob, none⟩))) rfl (by kernel_rfl) (by kernel_rfl) (by kernel_rfl) (fun _ _ _ h => h) (Or.inl ⟨by rfl, ?_⟩) hH ?_
          · intro w hSw
            (try dsimp only at hSw)
            go_simp
          (try simp only [Act.put, List.setIfInBounds_toArray, List.set_cons_zero, List.set_cons_succ])
          refine wpAnyH_take (i := 1) (oi := { dst := some 84, op := Go.Op.move (Go.Operand.tmp 1), type := 179, pos := "contact.go:88", after := #[], guard := none }) (v := (.pointer (some ⟨g, ob, none⟩))) rfl (by kernel_rfl) (by kernel_rfl) (by kernel_rfl) (fun _ _ _ h => h) (Or.inl ⟨by rfl, ?_⟩) hH ?_
          · intro w hSw
            (try dsimp only at hSw)
            go_simp
          (try simp only [Act.put, List.setIfInBounds_toArray, List.set_cons_zero, List.set_cons_succ])
          refine wpAnyH_take (i := 2) (oi := { dst := some 85, op := Go.Op.nilCheck (Go.Operand.tmp 84), type := 0, pos := "contact.go:88", after := #[{ on := 1, ground := Go.Ground.data }], guard := none }) (v := (.pointer (some ⟨g, ob, none⟩))) rfl (by kernel_rfl) (by kernel_rfl) (by kernel_rfl) (fun _ _ _ h => h) (Or.inl ⟨by rfl, ?_⟩) hH ?_
          · intro w hSw
            (try dsimp only at hSw)
            go_simp
          (try simp only [Act.put, List.setIfInBounds_toArray, List.set_cons_zero, List.set_cons_succ])
          refine wpAnyH_take (i := 3) (oi := { dst := some 86, op := Go.Op.fieldAddr 174 (Go.Operand.tmp 85) 0, type := 0, pos := "contact.go:88", after := #[{ on := 2, ground := Go.Ground.data }], guard := none }) (v := (.pointer (some ⟨g, ob, none⟩))) rfl (by kernel_rfl) (by kernel_rfl) (by kernel_rfl) (fun _ _ _ h => h) (Or.inl ⟨by rfl, ?_⟩) hH ?_
          · intro w hSw
            (try dsimp only at hSw)
            go_simp
          (try simp only [Act.put, List.setIfInBounds_toArray, List.set_cons_zero, List.set_cons_succ])
          refine wpAnyH_take (i := 4) (oi := { dst := some 87, op := Go.Op.fieldAddr 72 (Go.Operand.tmp 86) 2, type := 0, pos := "contact.go:88", after := #[{ on := 3, ground := Go.Ground.data }], guard := none }) (v := (.pointer (some ⟨g, ob + 2, none⟩))) rfl (by kernel_rfl) (by kernel_rfl) (by kernel_rfl) (fun _ _ _ h => h) (Or.inl ⟨by rfl, ?_⟩) hH ?_
          · intro w hSw
            (try dsimp only at hSw)
            go_simp
          (try simp only [Act.put, List.setIfInBounds_toArray, List.set_cons_zero, List.set_cons_succ])
          refine wpAnyH_take (i := 5) (oi := { dst := some 88, op := Go.Op.fieldAddr 39 (Go.Operand.tmp 87) 1, type := 0, pos := "contact.go:88", after := #[{ on := 4, ground := Go.Ground.data }], guard := none }) (v := (.pointer (some ⟨g, ob + 4, none⟩))) rfl (by kernel_rfl) (by kernel_rfl) (by kernel_rfl) (fun _ _ _ h => h) (Or.inl ⟨by rfl, ?_⟩) hH ?_
          · intro w hSw
            (try dsimp only at hSw)
            go_simp
          (try simp only [Act.put, List.setIfInBounds_toArray, List.set_cons_zero, List.set_cons_succ])
          refine wpAnyH_take (i := 7) (oi := { dst := some 90, op := Go.Op.load 28 (Go.Operand.tmp 10), type := 28, pos := "contact.go:88", after := #[], guard := none }) (v := (.agg #[.int .i64 px, .int .i64 py])) rfl (by kernel_rfl) (by kernel_rfl) (by kernel_rfl) (fun _ _ _ h => h) (Or.inl ⟨by rfl, ?_⟩) hH ?_
          · intro w hSw
            (try dsimp only at hSw)
            go_simp
          (try simp only [Act.put, List.setIfInBounds_toArray, List.set_cons_zero, List.set_cons_succ])
          refine wpAnyH_ready (rs := [6]) (by kernel_rfl) (by simp) ?_
          refine AllReadyH.cons rfl (fun K hK => ?_) AllReadyH.nil
          (try dsimp only at hH)
          have hgx := carry HG.out ((Below.refl w7.heap.size w7).drew)
          have m4 : w7.drew.cell? ⟨g, ob + 4, none⟩ = some (.int .i64 bvx) := cellN hgx kb4
          have m5 : w7.drew.cell? ⟨g, ob + 5, none⟩ = some (.int .i64 bvy) := cellN hgx kb5
          go_simp
          refine hK.out _ _ (HS7.out _ (Below.refl _ _).drew) (fun hH1 => ?_)
          clear hK K
          (try simp only [Act.put, List.setIfInBounds_toArray, List.set_cons_zero, List.set_cons_succ])
          refine wpAnyH_ready (rs := [8]) (by kernel_rfl) (by simp) ?_
          refine AllReadyH.cons rfl (fun K hK => ?_) AllReadyH.nil
          (try dsimp only at hH1)
          clear m4 m5
          go_simp
          refine (H8A.out _).mono ?_
          rintro e u1 ⟨rfl, hb1⟩
          refine hK.out _ _ (HS7.out _ (btrans (Below.refl _ _).drew (Nat.le_refl _) hb1)) (fun hH2 => ?_)
          clear hK K
          (try simp only [Act.put, List.setIfInBounds_toArray, List.set_cons_zero, List.set_cons_succ])
          refine wpAnyH_take (i := 9) (oi := { dst := some 92, op := Go.Op.extract (Go.Operand.tmp 91) 0, type := 28, pos := "contact.go:88", after := #[{ on := 8, ground := Go.Ground.data }], guard := none }) (v := (.agg #[.int .i64 ex, .int .i64 ey])) rfl (by kernel_rfl) (by kernel_rfl) (by kernel_rfl) (fun _ _ _ h => h) (Or.inl ⟨by rfl, ?_⟩) hH2 ?_
          · intro w hSw
            (try dsimp only at hSw)
            go_simp
          (try simp only [Act.put, List.setIfInBounds_toArray, List.set_cons_zero, List.set_cons_succ])
          refine wpAnyH_take (i := 10) (oi := { dst := some 93, op := Go.Op.extract (Go.Operand.tmp 91) 1, type := 33, pos := "contact.go:88", after := #[{ on := 8, ground := Go.Ground.data }], guard := none }) (v := (.int .i64 0)) rfl (by kernel_rfl) (by kernel_rfl) (by kernel_rfl) (fun _ _ _ h => h) (Or.inl ⟨by rfl, ?_⟩) hH2 ?_
          · intro w hSw
            (try dsimp only at hSw)
            go_simp
          (try simp only [Act.put, List.setIfInBounds_toArray, List.set_cons_zero, List.set_cons_succ])
          refine wpAnyH_ready (rs := [11]) (by kernel_rfl) (by simp) ?_
          refine AllReadyH.cons rfl (fun K hK => ?_) AllReadyH.nil
          (try dsimp only at hH2)
          go_simp
          refine (H8M.out _).mono ?_
          rintro e u2 ⟨rfl, hb2⟩
          refine hK.out _ _ (HS7.out _ (btrans (btrans (Below.refl _ _).drew (Nat.le_refl _) hb1) (Nat.le_refl _) hb2)) (fun hH3 => ?_)
          clear hK K
          (try simp only [Act.put, List.setIfInBounds_toArray, List.set_cons_zero, List.set_cons_succ])
          refine wpAnyH_take (i := 12) (oi := { dst := some 95, op := Go.Op.nilCheck (Go.Operand.tmp 83), type := 0, pos := "contact.go:88", after := #[{ on := 0, ground := Go.Ground.data }, { on := 0, ground := Go.Ground.phase }, { on := 1, ground := Go.Ground.phase }, { on := 2, ground := Go.Ground.phase }, { on := 3, ground := Go.Ground.phase }, { on := 4, ground := Go.Ground.phase }, { on := 5, ground := Go.Ground.phase }, { on := 6, ground := Go.Ground.phase }, { on := 7, ground := Go.Ground.phase }, { on := 8, ground := Go.Ground.phase }, { on := 9, ground := Go.Ground.phase }, { on := 10, ground := Go.Ground.phase }, { on := 11, ground := Go.Ground.phase }], guard := none }) (v := (.pointer (some ⟨g, ob, none⟩))) rfl (by kernel_rfl) (by kernel_rfl) (by kernel_rfl) (fun _ _ _ h => h) (Or.inl ⟨by rfl, ?_⟩) hH3 ?_
          · intro w hSw
            (try dsimp only at hSw)
            go_simp
          (try simp only [Act.put, List.setIfInBounds_toArray, List.set_cons_zero, List.set_cons_succ])
          refine wpAnyH_take (i := 13) (oi := { dst := some 96, op := Go.Op.fieldAddr 174 (Go.Operand.tmp 95) 0, type := 0, pos := "contact.go:88", after := #[{ on := 12, ground := Go.Ground.data }, { on := 0, ground := Go.Ground.phase }, { on := 1, ground := Go.Ground.phase }, { on := 2, ground := Go.Ground.phase }, { on := 3, ground := Go.Ground.phase }, { on := 4, ground := Go.Ground.phase }, { on := 5, ground := Go.Ground.phase }, { on := 6, ground := Go.Ground.phase }, { on := 7, ground := Go.Ground.phase }, { on := 8, ground := Go.Ground.phase }, { on := 9, ground := Go.Ground.phase }, { on := 10, ground := Go.Ground.phase }, { on := 11, ground := Go.Ground.phase }], guard := none }) (v := (.pointer (some ⟨g, ob, none⟩))) rfl (by kernel_rfl) (by kernel_rfl) (by kernel_rfl) (fun _ _ _ h => h) (Or.inl ⟨by rfl, ?_⟩) hH3 ?_
          · intro w hSw
            (try dsimp only at hSw)
            go_simp
          (try simp only [Act.put, List.setIfInBounds_toArray, List.set_cons_zero, List.set_cons_succ])
          refine wpAnyH_take (i := 14) (oi := { dst := some 97, op := Go.Op.fieldAddr 72 (Go.Operand.tmp 96) 2, type := 0, pos := "contact.go:88", after := #[{ on := 13, ground := Go.Ground.data }, { on := 0, ground := Go.Ground.phase }, { on := 1, ground := Go.Ground.phase }, { on := 2, ground := Go.Ground.phase }, { on := 3, ground := Go.Ground.phase }, { on := 4, ground := Go.Ground.phase }, { on := 5, ground := Go.Ground.phase }, { on := 6, ground := Go.Ground.phase }, { on := 7, ground := Go.Ground.phase }, { on := 8, ground := Go.Ground.phase }, { on := 9, ground := Go.Ground.phase }, { on := 10, ground := Go.Ground.phase }, { on := 11, ground := Go.Ground.phase }], guard := none }) (v := (.pointer (some ⟨g, ob + 2, none⟩))) rfl (by kernel_rfl) (by kernel_rfl) (by kernel_rfl) (fun _ _ _ h => h) (Or.inl ⟨by rfl, ?_⟩) hH3 ?_
          · intro w hSw
            (try dsimp only at hSw)
            go_simp
          (try simp only [Act.put, List.setIfInBounds_toArray, List.set_cons_zero, List.set_cons_succ])
          refine wpAnyH_take (i := 15) (oi := { dst := some 98, op := Go.Op.fieldAddr 39 (Go.Operand.tmp 97) 1, type := 0, pos := "contact.go:88", after := #[{ on := 14, ground := Go.Ground.data }, { on := 0, ground := Go.Ground.phase }, { on := 1, ground := Go.Ground.phase }, { on := 2, ground := Go.Ground.phase }, { on := 3, ground := Go.Ground.phase }, { on := 4, ground := Go.Ground.phase }, { on := 5, ground := Go.Ground.phase }, { on := 6, ground := Go.Ground.phase }, { on := 7, ground := Go.Ground.phase }, { on := 8, ground := Go.Ground.phase }, { on := 9, ground := Go.Ground.phase }, { on := 10, ground := Go.Ground.phase }, { on := 11, ground := Go.Ground.phase }], guard := none }) (v := (.pointer (some ⟨g, ob + 4, none⟩))) rfl (by kernel_rfl) (by kernel_rfl) (by kernel_rfl) (fun _ _ _ h => h) (Or.inl ⟨by rfl, ?_⟩) hH3 ?_
          · intro w hSw
            (try dsimp only at hSw)
            go_simp
          (try simp only [Act.put, List.setIfInBounds_toArray, List.set_cons_zero, List.set_cons_succ])
          refine wpAnyH_ready (rs := [16]) (by kernel_rfl) (by simp) ?_
          refine AllReadyH.cons rfl (fun K hK => ?_) AllReadyH.nil
          (try dsimp only at hH3)
          have hgy := carry hgx (btrans ((Below.refl _ _)) (Nat.le_refl _) (hb1.trans (hb2.mono hb1.size)))
          have m4 : u2.cell? ⟨g, ob + 4, none⟩ = some (.int .i64 bvx) := cellN hgy kb4
          have m5 : u2.cell? ⟨g, ob + 5, none⟩ = some (.int .i64 bvy) := cellN hgy kb5
          have f4 : u2.frozen? ⟨g, ob + 4, none⟩ = false := frozN hgy
          have f5 : u2.frozen? ⟨g, ob + 5, none⟩ = false := frozN hgy
          go_simp
          refine hK.out _ _ (put_s7 (by assumption) hH3) (fun hH4 => ?_)
          clear hK K
          (try simp only [Act.put, List.setIfInBounds_toArray, List.set_cons_zero, List.set_cons_succ])
          refine wpAnyH_done (by kernel_rfl) ?_ _
          go_upto_region 9 with fail
          have HG1 := hid (setV_heap (o := ob) hgy ex ey)
          have HCH1 := hid (set2_ch (S := fun k => k = g) (b := g) (i := ob + 4) (j := ob + 5) rfl (.int .i64 ex) (.int .i64 ey) (HCH.out.trans (Ch.of_below (btrans (btrans (Below.refl w7.heap.size w7).drew (Nat.le_refl _) hb1) (Nat.le_refl _) hb2))))
          clear m4 m5 f4 f5 hgy hgx hb1 hb2 hH hH1 hH2 hH3 hH4 HG HCH HS7
          generalize ((u2.setCell ⟨g, ob + 4, none⟩ (.int .i64 ex)).setCell ⟨g, ob + 5, none⟩ (.int .i64 ey)) = w8 at *
          have HAA := hid (show ∀ W : World, W.heap[g]? = some (.cells (setV (setV cur oa cx cy) ob ex ey) 174 (0, 0)) → W.cell? ⟨g, oa, none⟩ = some (.int .i64 at') ∧ W.cell? ⟨g, oa + 1, none⟩ = some (.int .i64 an) ∧ W.cell? ⟨g, oa + 2, none⟩ = some (.int .i64 ax) ∧ W.cell? ⟨g, oa + 3, none⟩ = some (.int .i64 ay) ∧ W.cell? ⟨g, oa + 4, none⟩ = some (.int .i64 cx) ∧ W.cell? ⟨g, oa + 5, none⟩ = some (.int .i64 cy) ∧ W.cell? ⟨g, oa + 6, none⟩ = some (.int .i64 asp) ∧ W.cell? ⟨g, oa + 7, none⟩ = some (.bool ao) from fun W h => ⟨cellN h (HRA2.out 0 (by omega)), cellN h (HRA2.out 1 (by omega)), cellN h (HRA2.out 2 (by omega)), cellN h (HRA2.out 3 (by omega)), cellN h (HRA2.out 4 (by omega)), cellN h (HRA2.out 5 (by omega)), cellN h (HRA2.out 6 (by omega)), cellN h (HRA2.out 7 (by omega))⟩)
          have HBB := hid (show ∀ W : World, W.heap[g]? = some (.cells (setV (setV cur oa cx cy) ob ex ey) 174 (0, 0)) → W.cell? ⟨g, ob, none⟩ = some (.int .i64 bt) ∧ W.cell? ⟨g, ob + 1, none⟩ = some (.int .i64 bn) ∧ W.cell? ⟨g, ob + 2, none⟩ = some (.int .i64 bx) ∧ W.cell? ⟨g, ob + 3, none⟩ = some (.int .i64 by1) ∧ W.cell? ⟨g, ob + 4, none⟩ = some (.int .i64 ex) ∧ W.cell? ⟨g, ob + 5, none⟩ = some (.int .i64 ey) ∧ W.cell? ⟨g, ob + 6, none⟩ = some (.int .i64 bsp) ∧ W.cell? ⟨g, ob + 7, none⟩ = some (.bool bo) from fun W h => ⟨cellN h (HRB2.out 0 (by omega)), cellN h (HRB2.out 1 (by omega)), cellN h (HRB2.out 2 (by omega)), cellN h (HRB2.out 3 (by omega)), cellN h (HRB2.out 4 (by omega)), cellN h (HRB2.out 5 (by omega)), cellN h (HRB2.out 6 (by omega)), cellN h (HRB2.out 7 (by omega))⟩)
          obtain ⟨d0, d1, d2, d3, d4, d5, d6, d7⟩ := HAA.out _ HG1.out
          go_wp2_with fail
          refine (HVA.out _).mono ?_
          rintro e w9 ⟨rfl, hb9⟩
          have HG9 := hid (carry HG1.out hb9)
          have HC9 := hid (HCH1.out.trans (Ch.of_below hb9))
          clear hb9 d0 d1 d2 d3 d4 d5 d6 d7
          cases va with
          | false =>
            go_wp2_with fail
            exact ⟨rfl, .inr ⟨HJ.out, HG9.out, HC9.out, rfl⟩⟩
          | true =>
            obtain ⟨d0, d1, d2, d3, d4, d5, d6, d7⟩ := HBB.out _ HG9.out
            go_wp2_with fail
            refine (HVB.out _).mono ?_
            rintro e w10 ⟨rfl, hb9⟩
            have HG10 := hid (carry HG9.out hb9)
            have HC10 := hid (HC9.out.trans (Ch.of_below hb9))
            clear hb9 d0 d1 d2 d3 d4 d5 d6 d7
            cases vb with
            | false =>
              go_wp2_with fail
              exact ⟨rfl, .inr ⟨HJ.out, HG10.out, HC10.out, rfl⟩⟩
            | true =>
              go_wp2_with fail
              go_ret
              exact .inr ⟨HJ.out, HG10.out, HC10.out, rfl⟩
end Go.Proofs.YtolnhicngepnnaaGreat
