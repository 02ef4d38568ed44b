/- Rotations that Next made alone, and besomlaw12.PlantTurns walked. -/
import Derived.Test.YtjjphiecjhijiaaDoorQ1
import Derived.Test.YtjjphiecjhijiaaDoorT9
/- The plain law of a rotation that Next made alone: block by block the same rows, the first ones without a set at a sheet twice. -/
namespace Go.Proofs.YtjjphiecjhijiaaDoor
open Go.RowKit

/-- The first row whose places are all good. -/
def dfs (z : Nat → Nat → Bool) : Nat → List Nat → Nat → Option (List Nat)
  | 0, _, _ => some []
  | k + 1, l, sh => l.findSome? fun x => if z sh x then (dfs z k (l.erase x) (sh + 1)).map (x :: ·) else none
theorem dfs_ok {U : Nat → Nat → Int} (hU : uOk U) {z : Nat → Nat → Bool} {q : Int} {n : Nat} (hz : ∀ s, s < n → ∀ x, x < n → q ≤ U s x ∧ (z s x = true ↔ U s x = q)) :
    ∀ (k : Nat) (l : List Nat) (sh : Nat), l.length = k → sh + k ≤ n → (∀ x ∈ l, x < n) →
    k * q ≤ mN U k l sh ∧ (∀ r, dfs z k l sh = some r → mN U k l sh = k * q ∧ rowN U k l sh = r) ∧ (dfs z k l sh = none → k * q < mN U k l sh) := by
  intro k
  induction k with
  | zero =>
    intro l sh hl hs hx
    refine ⟨by simp [mN], ?_, ?_⟩
    · intro r hr
      simp [dfs] at hr
      simp [mN, rowN, hr]
    · intro h; simp [dfs] at h
  | succ k ih =>
    intro l sh hl hs hx
    have hek : ∀ x ∈ l, (l.erase x).length = k := fun x hx => by rw [List.length_erase_of_mem hx]; omega
    have hih := fun x (hxl : x ∈ l) => ih (l.erase x) (sh + 1) (hek x hxl) (by omega) (fun y hy => hx y (List.mem_of_mem_erase hy))
    obtain ⟨⟨x0, hx0, h1⟩, h2⟩ := foldN_hit hU k l sh (fun x hx => (mN_bd hU k (l.erase x) (sh + 1) (hek x hx)).1) l (fun _ h => h) (by rintro rfl; simp at hl)
    have h1' : mN U k (l.erase x0) (sh + 1) + U sh x0 = mN U (k + 1) l sh := h1
    have h2' : ∀ x ∈ l, mN U (k + 1) l sh ≤ mN U k (l.erase x) (sh + 1) + U sh x := h2
    clear h1 h2
    have e1 : ((k + 1 : Nat) : Int) * q = k * q + q := by rw [Int.natCast_add, Int.add_mul]; simp
    have hbad : ∀ y ∈ l, (if z sh y then (dfs z k (l.erase y) (sh + 1)).map (y :: ·) else none) = none → k * q + q < mN U k (l.erase y) (sh + 1) + U sh y := by
      intro y hy hn
      obtain ⟨a1, -, a3⟩ := hih y hy
      obtain ⟨b1, b2⟩ := hz sh (by omega) y (hx y hy)
      by_cases hzy : z sh y = true
      · rw [if_pos hzy] at hn
        have := a3 (by simpa using hn)
        omega
      · have : U sh y ≠ q := fun e => hzy (b2.2 e)
        omega
    have hlow : k * q + q ≤ mN U (k + 1) l sh := by
      obtain ⟨a1, -, -⟩ := hih x0 hx0
      have := (hz sh (by omega) x0 (hx x0 hx0)).1
      omega
    rw [e1]
    refine ⟨hlow, ?_, ?_⟩
    · intro r hr
      rw [dfs, List.findSome?_eq_some_iff] at hr
      obtain ⟨pre, x, post, hsp, hfx, hpre⟩ := hr
      have hxl : x ∈ l := by rw [hsp]; simp
      by_cases hzx : z sh x = true
      · rw [if_pos hzx] at hfx
        obtain ⟨r', hr', rfl⟩ := Option.map_eq_some_iff.1 hfx
        obtain ⟨-, a2, -⟩ := hih x hxl
        obtain ⟨c1, c2⟩ := a2 r' hr'
        have hux := (hz sh (by omega) x (hx x hxl)).2.1 hzx
        have hle := h2' x hxl
        have hm : mN U (k + 1) l sh = k * q + q := by omega
        have hpick : pickN U k l sh = x := by
          unfold pickN
          have : l.find? (fun x => mN U k (l.erase x) (sh + 1) + U sh x == mN U (k + 1) l sh) = some x := by
            rw [List.find?_eq_some_iff_append]
            refine ⟨by simp; omega, pre, post, hsp, ?_⟩
            intro y hy
            have := hbad y (by rw [hsp]; simp [hy]) (hpre y hy)
            simp; omega
          rw [this]; rfl
        refine ⟨hm, ?_⟩
        rw [rowN, hpick, c2]
      · rw [if_neg hzx] at hfx; cases hfx
    · intro hn
      rw [dfs, List.findSome?_eq_none_iff] at hn
      have := hbad x0 hx0 (hn x0 hx0)
      omega

/-- The rows of a block. -/
def blkT : Nat → List (List Nat)
  | 1 => [[0]]
  | 2 => [[0, 1], [1, 0]]
  | 3 => [[0, 1, 2], [1, 2, 0], [2, 0, 1]]
  | 4 => [[0, 1, 2, 3], [1, 0, 3, 2], [2, 3, 0, 1], [3, 2, 1, 0]]
  | 5 => [[0, 1, 2, 3, 4], [1, 0, 3, 4, 2], [2, 3, 4, 0, 1], [3, 4, 1, 2, 0], [4, 2, 0, 1, 3]]
  | 6 => [[0, 1, 2, 3, 4, 5], [1, 0, 3, 2, 5, 4], [2, 3, 4, 5, 0, 1], [3, 2, 5, 4, 1, 0], [4, 5, 0, 1, 2, 3], [5, 4, 1, 0, 3, 2]]
  | 7 => [[0, 1, 2, 3, 4, 5, 6], [1, 0, 3, 2, 5, 6, 4], [2, 3, 0, 1, 6, 4, 5], [3, 4, 5, 6, 0, 1, 2], [4, 2, 6, 5, 1, 0, 3], [5, 6, 1, 4, 2, 3, 0], [6, 5, 4, 0, 3, 2, 1]]
  | 8 => [[0, 1, 2, 3, 4, 5, 6, 7], [1, 0, 3, 2, 5, 4, 7, 6], [2, 3, 0, 1, 6, 7, 4, 5], [3, 2, 1, 0, 7, 6, 5, 4], [4, 5, 6, 7, 0, 1, 2, 3], [5, 4, 7, 6, 1, 0, 3, 2], [6, 7, 4, 5, 2, 3, 0, 1], [7, 6, 5, 4, 3, 2, 1, 0]]
  | _ => []
def rowT (n i : Nat) : List Nat := (blkT n).getD (i % n) []
def rowI (n i : Nat) : List Int := (rowT n i).map fun (x : Nat) => (x : Int)
/-- The rounds behind i steps. -/
def turnsI (n i : Nat) : List (List Int) := (List.range i).map (rowI n)
theorem turnsI_succ (n i : Nat) : turnsI n (i + 1) = turnsI n i ++ [rowI n i] := by simp [turnsI, List.range_succ]
theorem turnsI_length (n i : Nat) : (turnsI n i).length = i := by simp [turnsI]
def chkT (n i : Nat) : Bool :=
  rotB n (turnsI n i) && (List.range n).all (fun s => (List.range n).all fun x => decide (((i / n : Nat) : Int) ≤ usedN (turnsI n i) s x)) &&
  (dfs (fun s x => decide (usedN (turnsI n i) s x = ((i / n : Nat) : Int))) n (List.range n) 0 == some (rowT n i)) &&
  (List.range n).all (fun s => decide (usedN ((turnsI n (i + 1)).drop (i / n * n)) s ((rowT n i).getD s 99) = 1)) && roundB n (rowI n i)
def chkA (n : Nat) : Bool := (List.range (3 * n)).all (chkT n)
theorem chk1 : chkA 1 = true := by kernel_rfl
theorem chk2 : chkA 2 = true := by kernel_rfl
theorem chk3 : chkA 3 = true := by kernel_rfl
theorem chk4 : chkA 4 = true := by kernel_rfl
theorem chk5 : chkA 5 = true := by kernel_rfl
theorem chk6 : chkA 6 = true := by kernel_rfl
theorem chk7 : chkA 7 = true := by kernel_rfl
theorem chk8 : chkA 8 = true := by kernel_rfl
theorem chk_all {n i : Nat} (h1 : 1 ≤ n) (h8 : n ≤ 8) (hi : i < 3 * n) : chkT n i = true := by
  have h : chkA n = true := by
    rcases (by omega : n = 1 ∨ n = 2 ∨ n = 3 ∨ n = 4 ∨ n = 5 ∨ n = 6 ∨ n = 7 ∨ n = 8) with rfl | rfl | rfl | rfl | rfl | rfl | rfl | rfl
    · exact chk1
    · exact chk2
    · exact chk3
    · exact chk4
    · exact chk5
    · exact chk6
    · exact chk7
    · exact chk8
  unfold chkA at h
  rw [List.all_eq_true] at h
  exact h i (List.mem_range.2 hi)
/-- What Next answers to the rounds that it made. -/
theorem turns_ok {n i : Nat} (h1 : 1 ≤ n) (h8 : n ≤ 8) (hi : i < 3 * n) :
    nextR n (turnsI n i) = (rowI n i, 0) ∧ roundB n (rowI n i) = true ∧ (rowI n i).length = n ∧ ∀ s (_ : s < n) (h' : s < (rowI n i).length), (rowI n i)[s] = (((rowT n i).getD s 99 : Nat) : Int) ∧ usedN ((turnsI n (i + 1)).drop (i / n * n)) s ((rowT n i).getD s 99) = 1 := by
  have h := chk_all h1 h8 hi
  simp only [chkT, Bool.and_eq_true, List.all_eq_true, decide_eq_true_eq, List.mem_range, beq_iff_eq] at h
  obtain ⟨⟨⟨⟨c1, c2⟩, c3⟩, c4⟩, c5⟩ := h
  have hU : uOk (usedN (turnsI n i)) := usedN_ok (by rw [turnsI_length]; omega)
  have hd := (dfs_ok hU (z := fun s x => decide (usedN (turnsI n i) s x = ((i / n : Nat) : Int))) (q := ((i / n : Nat) : Int)) (n := n) (fun s hs x hx => ⟨c2 s hs x hx, by simp⟩) n (List.range n) 0 (by simp) (by omega) (by simp)).2.1 _ c3
  have hlen : (rowI n i).length = n := by
    have := c5
    simp only [roundB, Bool.and_eq_true, beq_iff_eq] at this
    omega
  refine ⟨?_, c5, hlen, ?_⟩
  · unfold nextR
    rw [if_pos c1, if_neg (by rw [turnsI_length]; omega), Int.toNat_natCast, hd.2]
    rfl
  · intro s hs hs'
    refine ⟨?_, c4 s hs⟩
    have hs2 : s < (rowT n i).length := by simpa [rowI] using hs'
    simp [rowI, List.getD_eq_getElem?_getD, hs2]
end Go.Proofs.YtjjphiecjhijiaaDoor
/- besomlaw12.PlantTurns walked. -/
namespace Go.Proofs.YtjjphiecjhijiaaDoor
open Go.RowKit Go.Maps

theorem SlI.grown {w w' : World} {v : Value} {l : List Int} {r : Option Nat} (h : SlI w v l) (hg : w.grownBy w' r) (hne : ∀ q, v.ownBlock = some q → r ≠ some q) : SlI w' v l := by
  obtain ⟨a, cap, rfl, hn, hc⟩ := h
  refine ⟨a, cap, rfl, hn, hc.imp id ?_⟩
  rintro ⟨b, off, rfl, hlt, hc⟩
  refine ⟨b, off, rfl, Nat.lt_of_lt_of_le hlt hg.size, fun i hi => ?_⟩
  rw [hg.cell_far ⟨b, off + i, none⟩ hlt (fun e => hne b rfl e.symm)]
  exact hc i hi
/-- Rows that lie already, none of them in the list's own block. -/
def RowsG (w : World) (u : Value) (vs : List Value) (rs : List (List Int)) : Prop :=
  vs.length = rs.length ∧ ∀ j (h : j < vs.length) (h' : j < rs.length), ∃ b off cap, vs[j] = .slice (some ⟨b, off, none⟩) rs[j].length cap ∧ b < w.heap.size ∧ u.ownBlock ≠ some b ∧ SlI w vs[j] rs[j]
theorem RowsG.below {w w' : World} {u : Value} {vs : List Value} {rs : List (List Int)} (h : RowsG w u vs rs) (hb : Below w.heap.size w w') : RowsG w' u vs rs := by
  refine ⟨h.1, fun j h1 h2 => ?_⟩
  obtain ⟨b, off, cap, e, hlt, hne, hs⟩ := h.2 j h1 h2
  exact ⟨b, off, cap, e, Nat.lt_of_lt_of_le hlt hb.size, hne, hs.below hb⟩
theorem RowsG.more {w2 w4 w7 : World} {u : Value} {vs : List Value} {rs : List (List Int)} {row : List Int} {o : Obj} {g7 cap7 n7 b off cap : Nat} (h : RowsG w2 u vs rs) (hb : Below w2.heap.size w2 w4) (hu : ∀ q, u.ownBlock = some q → q < w2.heap.size)
    (hs : SlI w4 (.slice (some ⟨b, off, none⟩) row.length cap) row) (hbl : b < w4.heap.size) (hfresh : w2.heap.size ≤ b) (hg : (w4.alloc o).grownBy w7 u.ownBlock) (hat : u.ownBlock = some g7 ∨ g7 = w4.heap.size + 1) :
    RowsG w7 (.slice (some ⟨g7, 0, none⟩) n7 cap7) (vs ++ [.slice (some ⟨b, off, none⟩) row.length cap]) (rs ++ [row]) := by
  have hsz := hb.size
  have hsz7 := hg.size
  simp at hsz7
  have hne : ∀ q, q < w4.heap.size → u.ownBlock ≠ some q → (Value.slice (some ⟨g7, 0, none⟩) n7 cap7).ownBlock ≠ some q := by
    intro q hq hn e
    have e2 : g7 = q := Option.some.inj e
    rcases hat with hat | hat
    · exact hn (by rw [hat, e2])
    · omega
  have hal : Below w4.heap.size w4 (w4.alloc o) := (Below.refl _ _).alloc (Nat.le_refl _) _
  refine ⟨by simp [h.1], fun j hj hj' => ?_⟩
  by_cases hjk : j < vs.length
  · obtain ⟨b', off', cap', e, hlt, hn, hsj⟩ := h.2 j hjk (by rw [← h.1]; exact hjk)
    have e1 : (vs ++ [.slice (some ⟨b, off, none⟩) row.length cap])[j] = vs[j] := List.getElem_append_left hjk
    have e2 : (rs ++ [row])[j] = rs[j]'(by rw [← h.1]; exact hjk) := List.getElem_append_left _
    rw [e1, e2]
    refine ⟨b', off', cap', e, by omega, hne b' (by omega) hn, ?_⟩
    refine ((hsj.below hb).below hal).grown hg ?_
    intro q hq
    rw [e] at hq
    have : b' = q := Option.some.inj hq
    rw [← this]; exact hn
  · have hjk2 : j = vs.length := by simp at hj; omega
    have hjk3 : j = rs.length := by rw [← h.1]; exact hjk2
    have hn : u.ownBlock ≠ some b := fun e => by have := hu b e; omega
    have e1 : (vs ++ [.slice (some ⟨b, off, none⟩) row.length cap])[j] = .slice (some ⟨b, off, none⟩) row.length cap := by
      rw [List.getElem_append_right (by omega)]; simp
    have e2 : (rs ++ [row])[j] = row := by rw [List.getElem_append_right (by omega)]; simp
    rw [e1, e2]
    refine ⟨b, off, cap, rfl, by omega, hne b hbl hn, ?_⟩
    refine (hs.below hal).grown hg ?_
    intro q hq
    have : b = q := Option.some.inj hq
    rw [← this]; exact hn
/-- The rows from one on, as the program cuts them. -/
theorem RowsG.drop {w : World} {base g n cap c : Nat} {vs : List Value} {rs : List (List Int)} (h : RowsG w (.slice (some ⟨g, 0, none⟩) n cap) vs rs) (ho : w.ownsRow base 22 1 (.slice (some ⟨g, 0, none⟩) n cap) n vs) (k : Nat) (hk : k < n) (hn : n ≤ 1000) :
    SlR w (.slice (some ⟨g, k, none⟩) (n - k) c) (rs.drop k) := by
  have hvl : vs.length = n := by have := ho.1; simpa using this
  have hrl : rs.length = n := by rw [← h.1]; exact hvl
  obtain ⟨g2, cap2, e, _, hg⟩ := ho.form (by omega)
  obtain ⟨e1, -, -⟩ := Value.slice.inj e
  obtain rfl : g = g2 := by have := Option.some.inj e1; injection this
  refine ⟨vs.drop k, by simp [hvl, hrl], ⟨some ⟨g, k, none⟩, c, by simp [hrl], by simp; omega, .inr ⟨g, k, rfl, hg, fun i hi => ?_⟩⟩, fun j hj hj' => ?_⟩
  · simp only [List.length_drop] at hi
    rw [ho.cellAt (k + i) (by omega), List.getElem_drop]
    exact List.getElem?_eq_getElem (by omega)
  · simp only [List.length_drop] at hj hj'
    obtain ⟨_, _, _, _, _, _, hs⟩ := h.2 (k + j) (by omega) (by omega)
    rw [List.getElem_drop, List.getElem_drop]
    exact hs
theorem RowsG.all {w : World} {base n : Nat} {u : Value} {vs : List Value} {rs : List (List Int)} (h : RowsG w u vs rs) (ho : w.ownsRow base 22 1 u n vs) (hn : n ≤ 1000) : SlR w u rs := by
  have hvl : vs.length = n := by have := ho.1; simpa using this
  have hrl : rs.length = n := by rw [← h.1]; exact hvl
  by_cases h0 : n = 0
  · subst h0
    obtain rfl : rs = [] := List.length_eq_zero_iff.1 hrl
    obtain rfl : vs = [] := List.length_eq_zero_iff.1 hvl
    refine ⟨[], rfl, ?_, fun j hj => by simp at hj⟩
    rcases ho.2 with ⟨e, _⟩ | ⟨g, cap, cur, e, _⟩
    · exact ⟨none, 0, e, by simp, .inl rfl⟩
    · exact ⟨_, cap, e, by simp, .inl rfl⟩
  · obtain ⟨g, cap, rfl, _, hg⟩ := ho.form (by omega)
    have := h.drop (c := cap) ho 0 (by omega) hn
    simpa using this
theorem RowsG.last {w : World} {u x : Value} {vs : List Value} {rs : List (List Int)} {row : List Int} (h : RowsG w u (vs ++ [x]) (rs ++ [row])) : SlI w x row := by
  have hl : vs.length = rs.length := by have := h.1; simpa using this
  obtain ⟨_, _, _, _, _, _, hs⟩ := h.2 vs.length (by simp) (by simp [hl])
  rw [List.getElem_append_right (Nat.le_refl _), List.getElem_append_right (by omega)] at hs
  simpa using hs

set_option maxRecDepth 100000 in
set_option maxHeartbeats 1000000 in
/-- besomlaw12.PlantTurns returns true. -/
theorem turns_any (s b : Int) (w : World) (hs0 : 0 ≤ s) (hs1 : s ≤ 255) (hb0 : 0 ≤ b) (hb1 : b ≤ 255) (hT : TabW w) : Calls Tryd.prog 8 #[.int .u8 s, .int .u8 b] w (True1 w) := by
  have HT := hid hT
  obtain ⟨n, hn⟩ : ∃ n : Nat, 1 + s % 8 = (n : Int) := ⟨(1 + s % 8).toNat, by omega⟩
  obtain ⟨c, hc⟩ : ∃ c : Nat, 1 + b % 3 = (c : Int) := ⟨(1 + b % 3).toNat, by omega⟩
  have hn1 : 1 ≤ n := by omega
  have hn8 : n ≤ 8 := by omega
  have hc1 : 1 ≤ c := by omega
  have hc3 : c ≤ 3 := by omega
  obtain ⟨N, hN⟩ : ∃ N : Nat, (c : Int) * (n : Int) = (N : Int) := ⟨c * n, by simp⟩
  have hN3 : N ≤ 3 * n := by
    have h1 : (N : Int) = ((c * n : Nat) : Int) := by rw [← hN]; simp
    have h2 : c * n ≤ 3 * n := Nat.mul_le_mul_right n hc3
    omega
  obtain ⟨i0, hi, hz0, hz1, hz2⟩ := info_parts info22
  clear hT
  go_enter Tryd.func8, Tryd.ntmps8
  go_wp2_with fail
  go_loopw [6, 7] (fun u i wr => ∃ (k : Nat) (vs : List Value), k ≤ N ∧ i = .int .i64 k ∧ wr.ownsRow w.heap.size 22 1 u k vs ∧ Below w.heap.size w wr ∧ RowsG wr u vs (turnsI n k)) (fun _ i _ => N - (intOf i).toNat)
  case atStart => exact ⟨0, [], Nat.zero_le _, rfl, World.ownsRow_nil _ _ _ _, Below.refl _ _, rfl, fun j h => by simp at h⟩
  case round =>
    obtain ⟨k, vs, hk, rfl, hown, hbr, hrg⟩ := hrel
    obtain ⟨w2, rfl⟩ : ∃ w2 : World, w2 = wr := ⟨_, rfl⟩
    have HOWN := hid hown
    have HB := hid hbr
    have HRG := hid hrg
    clear hown hbr hrg
    by_cases hkN : k < N
    · have hkN' : decide ((k : Int) < (N : Int)) = true := by simp; omega
      have HSR := hid (HRG.out.all HOWN.out (by omega))
      have HOK := hid (turns_ok (n := n) (i := k) hn1 hn8 (by omega))
      have HNX := hid (next_any2 (n : Int) u6 (turnsI n k) w2 HSR.out (HT.out.below' HB.out))
      go_wp2_with fail
      refine HNX.out.mono ?_
      rintro e w3 ⟨⟨v8, rfl, hs8, hf8⟩, hb8⟩
      rw [HOK.out.1] at hs8 ⊢
      obtain ⟨a8, c8, rfl, -, hcc8⟩ := hs8.open
      obtain ⟨b8, o8, rfl, hb8l, hc8⟩ := hcc8 0 (by rw [HOK.out.2.2.1]; omega)
      have HS8 := hid hs8
      have HF8 := hid (hf8 b8 rfl)
      have HC8 := hid hc8
      have HB8 := hid hb8
      have HRD := hid (refRound_any n _ (rowI n k) w3 hn1 hn8 hs8)
      rw [HOK.out.2.1] at HRD
      have HLEN := hid HOK.out.2.2.1
      have hst1 : k / n * n ≤ k := Nat.div_mul_le_self k n
      rw [HLEN.out] at HRD ⊢
      clear hs8 hf8 hcc8 hc8 hb8
      go_wp2_with fail
      refine HRD.out.mono ?_
      rintro e w4 ⟨rfl, d4, rfl⟩
      have HB4 := hid (drewNB HB8.out d4)
      have HS4 := hid (HS8.out.drewN d4)
      have hb84 : b8 < (w3.drewN d4).heap.size := hb8l
      generalize w3.drewN d4 = w4 at *
      go_upto_region 10 with (at_builtin; refine wpList_append_lies _ rfl _ _ 53 rfl w.heap.size 22 i0 (.slice none 0 0) 1 24 Tryd.underlying53 hi hz0 hz1 hz2 rfl (by omega) u6 k _ rfl ((own_below HOWN.out HB4.out).alloc _) ⟨w4.heap.size, 0, none⟩ 1 1 [.slice (some ⟨b8, o8, none⟩) n c8] rfl rfl (cell_one_new _ _ _) (ones _ rfl) (by omega) (by unfold maxLen; omega) (by omega) (by have := HB4.out.size; have := HB.out.size; simp; omega) (w4.heap.size + 1) (by simp) ?_; intro g7 cap7 w7 hown7 hgrow7 hat7 hlt7)
      have hb7 : Below w.heap.size w w7 := by
        have h3 := HB.out.trans (HB4.out.mono HB.out.size)
        have h4 := h3.alloc h3.size (.cells #[.slice (some ⟨b8, o8, none⟩) n c8] 22)
        exact h4.grown hgrow7 h4.size (fun q hq => (HOWN.out.lt q hq).1)
      have hrg7 : RowsG w7 (.slice (some ⟨g7, 0, none⟩) (k + 1) cap7) (vs ++ [.slice (some ⟨b8, o8, none⟩) n c8]) (turnsI n (k + 1)) := by
        rw [turnsI_succ]
        have h := HRG.out.more (n7 := k + 1) (cap7 := cap7) (row := rowI n k) (b := b8) (off := o8) (cap := c8) HB4.out (fun q hq => (HOWN.out.lt q hq).2) HS4.out hb84 HF8.out hgrow7 hat7
        rw [HLEN.out] at h
        exact h
      have H7 := hid (And.intro hown7 (And.intro hb7 hrg7))
      have hcap7 : k + 1 ≤ cap7 := by
        rcases hown7.2 with ⟨e, _⟩ | ⟨g, cap, cur, e, _, _, hle, _⟩
        · cases e
        · obtain ⟨-, -, rfl⟩ := Value.slice.inj e
          exact hle
      clear hown7 hb7 hrg7 hgrow7 hat7 hlt7
      obtain ⟨st, hst⟩ : ∃ st, st = k / n * n := ⟨_, rfl⟩
      rw [← hst] at hst1
      go_cut [10] (fun t wx => t = .int .i64 (st : Int) ∧ wx = w7)
      case first =>
        have hn0 : ((n : Int) == 0) = false := by simp; omega
        obtain ⟨q, hq⟩ : ∃ q, q = k / n := ⟨_, rfl⟩
        rw [← hq] at hst
        have hdiv : (k : Int) / (n : Int) = (q : Int) := by rw [hq]; rfl
        have hmul : (q : Int) * (n : Int) = (st : Int) := by rw [hst]; simp
        have hn0' : (1 : Int) ≤ (n : Int) := by omega
        have hq3 : q ≤ k := by rw [hq]; exact Nat.div_le_self k n
        clear hst hq
        go_wp2_with fail
        go_meet
        refine ⟨?_, rfl⟩
        rfl
      case rest =>
        obtain ⟨rfl, rfl⟩ := hcut
        rw [← hst] at HOK
        have HRS := hid (fun (d : Nat) => (H7.out.2.2.drop (c := cap7 - st) H7.out.1 st (by omega) (by omega)).below (drewNB (Below.refl _ _) d))
        have HC7 := hid (show ∀ (d j : Nat) (h : j < (rowI n k).length), (wc.drewN d).cell? ⟨b8, o8 + j, none⟩ = some (.int .i64 (rowI n k)[j]) from by
          intro d j h
          have hrg := H7.out.2.2
          rw [turnsI_succ] at hrg
          obtain ⟨a9, c9, e9, -, hc9⟩ := hrg.last.open
          obtain ⟨b9, o9, rfl, -, hx9⟩ := hc9 j h
          obtain ⟨e10, -, -⟩ := Value.slice.inj e9
          obtain ⟨rfl, rfl⟩ : b8 = b9 ∧ o8 = o9 := by have := Option.some.inj e10; injection this with h1 h2; exact ⟨h1, h2⟩
          exact hx9 j h)
        have hst2 : st < k + 1 := by omega
        have hst3 : ¬ cap7 = st := by omega
        have hst4 : (st : Int) ≤ (k : Int) + 1 := by omega
        have hst5 : st ≤ k + 1 := by omega
        have hst6 : st ≤ cap7 := by omega
        clear hst
        go_wp2_with fail
        go_loopw [11] (fun i wr => ∃ j : Nat, j ≤ n ∧ i = .int .i64 j ∧ ∃ d, wr = wc.drewN d) (fun i _ => n - (intOf i).toNat)
        case atStart => exact ⟨0, Nat.zero_le _, rfl, 0, rfl⟩
        case round =>
          obtain ⟨j, hj, rfl, d, rfl⟩ := hrel
          by_cases hjn : j < n
          · obtain ⟨hx1, hx2⟩ := HOK.out.2.2.2 j hjn (by rw [HLEN.out]; exact hjn)
            have x0 := HC7.out d j (by rw [HLEN.out]; exact hjn)
            rw [hx1] at x0
            have HUS := hid (fun d' => used_any _ _ j ((rowT n k).getD j 99) (wc.drewN d') (HRS.out d') (by simp [turnsI_length]; omega) (fun l hl => by
              have hl := List.mem_of_mem_drop hl
              unfold turnsI at hl
              obtain ⟨i, hi, rfl⟩ := List.mem_map.1 hl
              have hi := List.mem_range.1 hi
              have := (turns_ok (n := n) (i := i) hn1 hn8 (by omega)).2.2.1
              rw [this]; exact hjn))
            rw [hx2] at HUS
            generalize (rowT n k).getD j 99 = x at *
            clear hx1 hx2
            go_wp2_with fail
            go_region_held3 (fun w' => w'.cell? ⟨b8, o8 + j, none⟩ = some (.int .i64 (x : Int))) (first | assumption | exact x0) ((go_at_call 30; refine (HUS.out _).mono ?_; rintro e w' ⟨rfl, rfl⟩))
            all_goals
              go_wp2_with fail
              refine ⟨⟨j + 1, by omega, by go_num, _, rfl⟩, by simp [intOf]; omega⟩
          · obtain rfl : j = n := by omega
            go_wp2_with fail
            refine ⟨⟨k + 1, _, by omega, by go_num, own_below H7.out.1 (drewNB (Below.refl _ _) d), drewNB H7.out.2.1 d, H7.out.2.2.below (drewNB (Below.refl _ _) d)⟩, by simp [intOf]; omega⟩
    · obtain rfl : k = N := by omega
      have hkN' : decide ((k : Int) < (k : Int)) = false := by simp
      go_wp2_with fail
      refine (awake_any w2 (HT.out.below' HB.out)).mono ?_
      rintro e W6 ⟨rfl, hb6⟩
      have HB6 := hid (HB.out.trans (hb6.mono HB.out.size))
      clear hb6
      go_wp2_with fail
      go_ret
      exact ⟨rfl, HB6.out⟩
end Go.Proofs.YtjjphiecjhijiaaDoor
