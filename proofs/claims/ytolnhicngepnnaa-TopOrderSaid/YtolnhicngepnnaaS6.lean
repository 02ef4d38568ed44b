/- The stones in the house. -/
import Derived.Test.YtolnhicngepnnaaS5
import Derived.Test.YtolnhicngepnnaaDX
namespace Go.Proofs.Ytolnhicngepnnaa
open Go.RowKit Go.Shelf
attribute [local go_sem] Oper.semAt_some

/-- The stone of a number, and whether it is in the house. -/
def stAt (l : List StoneD) (k : Nat) : StoneD := l.getD k ⟨0, 0, 0, 0⟩
def inH (l : List StoneD) (k : Nat) : Bool := zoneR (stAt l k).x (stAt l k).y == 2
/-- The first k stones that are in the house. -/
def houseTo (l : List StoneD) (k : Nat) : List Nat := (List.range k).filter (inH l)
theorem houseTo_succ (l : List StoneD) (k : Nat) : houseTo l (k + 1) = if inH l k then houseTo l k ++ [k] else houseTo l k := by
  unfold houseTo
  rw [List.range_succ, List.filter_append]
  cases h : inH l k <;> simp [h]
theorem houseTo_pre (l : List StoneD) : ∀ (n k : Nat), k ≤ n → ∃ r, houseTo l n = houseTo l k ++ r
  | 0, k, h => ⟨[], by obtain rfl : k = 0 := by omega
                       simp⟩
  | n + 1, k, h => by
    by_cases e : k = n + 1
    · exact ⟨[], by simp [e]⟩
    · obtain ⟨r, hr⟩ := houseTo_pre l n k (by omega)
      rw [houseTo_succ, hr]
      cases inH l n
      · exact ⟨r, by simp⟩
      · exact ⟨r ++ [n], by simp⟩
theorem houseTo_at (l : List StoneD) (n k : Nat) (h : k < n) (hk : inH l k = true) : ∃ r, houseTo l n = houseTo l k ++ k :: r := by
  obtain ⟨r, hr⟩ := houseTo_pre l n (k + 1) (by omega)
  rw [houseTo_succ, if_pos hk] at hr
  exact ⟨r, by rw [hr]; simp⟩
def encH (l : List StoneD) (k : Nat) : Array Value := #[.int .i64 (k : Int), (stAt l k).agg]
def NxH (l : List StoneD) (pre : List Nat) (k : Nat) : Prop := ∃ r, houseTo l l.length = pre ++ k :: r
theorem housed_any (a : Option Addr) (n cap : Nat) (w : World) : Calls Try.prog 38 #[.slice a n cap] w fun e w' => e = .returned (.func (.func 66) #[] #[.pointer (some ⟨w.heap.size, 0, none⟩)]) ∧ w' = w.alloc (.cells #[.slice a n cap] 22) := by
  have hmf : ∀ (fn : Fn) (first cap : Array Value) (w : World), (Instr.makeFunc fn first cap).run Try.prog w = .ok (.func fn first cap) w := fun _ _ _ _ => rfl
  go_enter Try.func38, Try.ntmps38
  go_wp2
  go_ret
  exact ⟨rfl, rfl⟩
set_option maxRecDepth 100000 in
set_option maxHeartbeats 2000000 in
theorem housed1_in (n : Nat) (hn : 1 ≤ n) (lp bS : Nat) (a : Option Addr) (cap : Nat) (l : List StoneD) (hl : l.length ≤ 1000) (hok : ∀ k, k < l.length → (stAt l k).ok = true) (J : (Nat → Prop) → List Nat → World → Prop) (W : World)
    (hs : SlS W (.slice a l.length cap) l) (hc : W.cell? ⟨bS, 0, none⟩ = some (.slice a l.length cap))
    (hJ : ∀ O pre W1 W2, J O pre W1 → Ch O W1 W2 → J (NewO O W1 W2) pre W2)
    (hY : ∀ O pre x W1, J O pre W1 → NxH l pre x → YieldAt Fence.wide (n - 1) Try.prog lp (encH l x) W1 fun e W' =>
      e = .returned (.bool true) ∧ J O (pre ++ [x]) W' ∧ W1.heap.size ≤ W'.heap.size ∧ ∀ k, O k ∨ (k = bS ∨ ∃ ad, a = some ad ∧ ad.block = k) → W'.heap[k]? = W1.heap[k]?)
    (h0 : J (fun _ => False) [] W) :
    CallsIn Fence.wide n Try.prog 66 #[.func (.yield lp) #[] #[], .pointer (some ⟨bS, 0, none⟩)] W fun e W' => (∃ v, e = .returned v) ∧ ∃ O, J O (houseTo l l.length) W' := by
  have HJ := hid hJ
  have HY := hid hY
  have HS := hid hs
  have HOK := hid hok
  have hbS := World.block_lt_of_cell? W ⟨bS, 0, none⟩ hc
  obtain ⟨a', cap', e, -, hcs⟩ := hs.open
  obtain ⟨rfl, -, -⟩ := Value.slice.inj e
  have HCS := hid hcs
  clear hJ hY hs hcs e hok
  refine callsIn_of_wp Try.func66 rfl trivial ?_ rfl
  simp only [Try.ntmps66, List.size_toArray, List.length_cons, List.length_nil, Nat.reduceAdd, Nat.reduceSub, Array.replicate_succ, Array.replicate_zero, List.push_toArray, List.append_toArray, List.nil_append, List.cons_append]
  gi_wp2_with fail
  clear hc
  gi_loopw [7] (fun i wr => ∃ (k : Nat) (O : Nat → Prop), k ≤ l.length ∧ i = .int .i64 k ∧ J O (houseTo l k) wr ∧ (∀ j, (j = bS ∨ ∃ ad, a = some ad ∧ ad.block = j) → wr.heap[j]? = W.heap[j]?) ∧ W.heap.size ≤ wr.heap.size) (fun i _ => l.length - (intOf i).toNat)
  case atStart => exact ⟨0, _, Nat.zero_le _, rfl, h0, fun _ _ => rfl, Nat.le_refl _⟩
  case round =>
    obtain ⟨k, O, hk, rfl, hJo, hsame, hsz⟩ := hrel
    obtain ⟨wo, rfl⟩ : ∃ wo, wo = wr := ⟨_, rfl⟩
    have HJO := hid hJo
    have HSA := hid hsame
    clear hJo hsame h0
    by_cases hlt : k < l.length
    · obtain ⟨b, off, rfl, hbl, hc⟩ := HCS.out k hlt
      have hblk := HSA.out b (.inr ⟨_, rfl, rfl⟩)
      have hx0 := (World.cell?_of_block (a := ⟨b, off + k * 4, none⟩) hblk).trans (hc k hlt).1
      have hx1 := (World.cell?_of_block (a := ⟨b, off + k * 4 + 1, none⟩) hblk).trans (hc k hlt).2.1
      have hx2 := (World.cell?_of_block (a := ⟨b, off + k * 4 + 2, none⟩) hblk).trans (hc k hlt).2.2.1
      have hx3 := (World.cell?_of_block (a := ⟨b, off + k * 4 + 3, none⟩) hblk).trans (hc k hlt).2.2.2
      have hxk : l[k] = stAt l k := by simp [stAt, List.getD_eq_getElem?_getD, hlt]
      rw [hxk] at hx0 hx1 hx2 hx3
      have HHS := hid (houseTo_succ l k)
      have HHA := hid (houseTo_at l l.length k hlt)
      have HENC := hid (show encH l k = #[.int .i64 (k : Int), (stAt l k).agg] from rfl)
      have hzo := HOK.out k hlt
      have HIN := hid (show inH l k = (zoneR (stAt l k).x (stAt l k).y == 2) from rfl)
      clear hc hxk hblk
      generalize stAt l k = x at *
      obtain ⟨tx, nx, xx, xy⟩ := x
      simp only [StoneD.ok] at hzo hx0 hx1 hx2 hx3
      simp only at HIN
      have HZ := hid (fun W => zone_any xx xy hzo W)
      generalize zoneR xx xy = zn at *
      clear hzo
      have hb2 : Below wo.heap.size wo (wo.alloc (.cells #[.int .i64 tx, .int .i64 nx, .int .i64 xx, .int .i64 xy] 49)) := (Below.refl _ _).alloc (Nat.le_refl _) _
      have HBX := hid (show (wo.alloc (.cells #[.int .i64 tx, .int .i64 nx, .int .i64 xx, .int .i64 xy] 49)).heap[wo.heap.size]? = some (.cells #[.int .i64 tx, .int .i64 nx, .int .i64 xx, .int .i64 xy] 49 (0, 0)) from heap_alloc_new _ _)
      gi_wp2_with fail
      refine ⟨trivial, ?_⟩
      refine (callsIn_wide.2 (HZ.out _)).mono ?_
      rintro e w3 ⟨rfl, hb3⟩
      have p3 := (hb3.block _ (Array.getElem?_eq_some_iff.1 HBX.out).1).trans HBX.out
      have hb23 := hb2.trans (hb3.mono hb2.size)
      have c0 : w3.cell? ⟨wo.heap.size, 0, none⟩ = some (.int .i64 tx) := by simp [World.cell?, p3]
      have c1 : w3.cell? ⟨wo.heap.size, 1, none⟩ = some (.int .i64 nx) := by simp [World.cell?, p3]
      have c2 : w3.cell? ⟨wo.heap.size, 2, none⟩ = some (.int .i64 xx) := by simp [World.cell?, p3]
      have c3 : w3.cell? ⟨wo.heap.size, 3, none⟩ = some (.int .i64 xy) := by simp [World.cell?, p3]
      have hJ3 := HJ.out O (houseTo l k) wo w3 HJO.out (Ch.of_below hb23)
      have HB3 := hid hb23
      have HKB := hid (show ∀ j, (j = bS ∨ ∃ ad, some (⟨b, off, none⟩ : Addr) = some ad ∧ ad.block = j) → j < wo.heap.size by
        rintro j (rfl | ⟨ad, e, rfl⟩)
        · omega
        · cases e
          show b < wo.heap.size
          omega)
      clear hb2 hb3 hb23 p3 hx0 hx1 hx2 hx3
      by_cases hz : zn = 2
      · have hzb : (zn == 2) = true := by simp [hz]
        have hin : inH l k = true := by rw [HIN.out]; exact hzb
        obtain ⟨r, hr⟩ := HHA.out hin
        obtain ⟨fn, tmps, assign, body, hy, hR⟩ := HY.out _ (houseTo l k) k w3 hJ3 ⟨r, hr⟩
        rw [HENC.out] at hy
        dsimp only [StoneD.agg] at hy
        have HR := hid hR
        have HHT := hid (show houseTo l (k + 1) = houseTo l k ++ [k] by rw [HHS.out, if_pos hin])
        clear hR hJ3 hr hz hin
        gi_wp2_with fail
        refine HR.out.mono ?_
        rintro e W3 ⟨rfl, hJ4, hz4, hs4⟩
        have HJ4 := hid hJ4
        have HS4 := hid hs4
        clear hJ4 hs4 hy
        gi_wp2_with fail
        refine ⟨⟨k + 1, _, by omega, by go_num, by rw [HHT.out]; exact HJ4.out, fun j hj => ?_, by have := HB3.out.size; omega⟩, by simp only [intOf]; omega⟩
        rw [HS4.out j (.inr hj), HB3.out.block j (HKB.out j hj), HSA.out j hj]
      · have hzb : (zn == 2) = false := by simp [hz]
        have hin : inH l k = false := by rw [HIN.out]; exact hzb
        have HHT := hid (show houseTo l (k + 1) = houseTo l k by rw [HHS.out, hin]; rfl)
        have HJ3 := hid hJ3
        clear hJ3 hz hin
        gi_wp2_with fail
        refine ⟨fun _ h => (by cases h), ?_⟩
        gi_wp2_with fail
        refine ⟨⟨k + 1, _, by omega, by go_num, by rw [HHT.out]; exact HJ3.out, fun j hj => ?_, by have := HB3.out.size; omega⟩, by simp only [intOf]; omega⟩
        rw [HB3.out.block j (HKB.out j hj), HSA.out j hj]
    · gi_wp2_with fail
      go_end0
      obtain rfl : k = l.length := by omega
      exact ⟨⟨_, rfl⟩, O, HJO.out⟩
end Go.Proofs.Ytolnhicngepnnaa
