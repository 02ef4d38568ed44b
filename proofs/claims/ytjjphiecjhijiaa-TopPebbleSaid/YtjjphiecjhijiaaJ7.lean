import Derived.RangeFuncNested
import Derived.RangeFuncBound
import Derived.RangeFuncCalls
import Derived.RangeFuncLeaves
import Derived.Shelf.Abstract
import Derived.Shelf.RegionOpen
import Derived.OwnWalkIn
import Derived.TacticsInMore
import Derived.LoopNIn
import Derived.LoopIn
import Derived.Test.YtjjphiecjhijiaaJ6
namespace Go.Proofs.Ytjjphiecjhijiaa
open Go.RowKit Go.Maps Go.Shelf
attribute [local go_sem] Oper.semAt_some alloc_drewN setCell_drewN

/-- The blocks from lo on and below hi stand. -/
def KpB (lo hi : Nat) (W W' : World) : Prop := W.heap.size ≤ W'.heap.size ∧ ∀ k, lo ≤ k → k < hi → W'.heap[k]? = W.heap[k]?
theorem KpB.refl (lo hi : Nat) (W : World) : KpB lo hi W W := ⟨Nat.le_refl _, fun _ _ _ => rfl⟩
theorem KpB.trans {lo hi : Nat} {A B C : World} (h : KpB lo hi A B) (k : KpB lo hi B C) : KpB lo hi A C := ⟨Nat.le_trans h.1 k.1, fun i h1 h2 => (k.2 i h1 h2).trans (h.2 i h1 h2)⟩
theorem GrpR.kp {w w' : World} {lo hi bm : Nat} {G : Int → List Nat} {V : Int → Value} (h : GrpR w lo hi bm G V) (hk : KpB lo hi w w') : GrpR w' lo hi bm G V :=
  h.kept (Nat.le_trans h.2.2.1 hk.1) hk.2

def slotX (V : Int → Value) (x : Fin 500) : Array Value := #[.int .i64 (x.1 : Int), V (x.1 : Int)]
theorem fin_take (k : Nat) (h : k < 500) : (List.finRange 500).take (k + 1) = (List.finRange 500).take k ++ [⟨k, h⟩] := by
  rw [List.take_succ_eq_append_getElem (by simpa using h)]; simp

set_option maxRecDepth 100000 in
set_option maxHeartbeats 400000 in
/-- plant.slots$1: the iterator. -/
theorem slots1_in (F : Fence) (n : Nat) (h85 : F.fn 34) (hro : F.round = none) (hn : 1 ≤ n) (l bb bm lo hi : Nat) (G : Int → List Nat) (V : Int → Value) (J Jx : List (Fin 500) → World → Prop)
    (hY : ∀ pre x W, J pre W → pre.length < 500 → YieldAt F (n - 1) Try.prog l (slotX V x) W fun e W' =>
      (e = .returned (.bool true) ∧ J (pre ++ [x]) W' ∧ KpB lo hi W W') ∨ (e = .returned (.bool false) ∧ Jx (pre ++ [x]) W'))
    (W : World) (hbb : W.cell? ⟨bb, 0, none⟩ = some (.map (some bm))) (hb1 : lo ≤ bb) (hb2 : bb < hi) (hG : GrpR W lo hi bm G V) (h0 : J [] W) :
    CallsIn F n Try.prog 34 #[.func (.yield l) #[] #[], .pointer (some ⟨bb, 0, none⟩)] W fun e W' => (∃ v, e = .returned v) ∧
      ((∃ xs, xs = List.finRange 500 ∧ J xs W') ∨ (∃ pre, pre <+: List.finRange 500 ∧ Jx pre W')) := by
  have HG := hid hG
  have HY := hid hY
  clear hG hY
  refine callsIn_of_wp Try.func34 rfl h85 ?_ hro
  simp only [Try.ntmps34, List.size_toArray, List.length_cons, List.length_nil, Nat.reduceAdd, Nat.reduceSub, Array.replicate_succ, Array.replicate_zero, List.push_toArray, List.append_toArray, List.nil_append, List.cons_append]
  gi_wp2
  gi_loopw [4] (fun i wr => ∃ k : Nat, k ≤ 500 ∧ i = .int .i64 k ∧ J ((List.finRange 500).take k) wr ∧ KpB lo hi W wr) (fun i _ => 500 - (intOf i).toNat)
  case atStart => exact ⟨0, by omega, rfl, h0, KpB.refl _ _ _⟩
  case round =>
    obtain ⟨k, hk, rfl, hJ, hkp⟩ := hrel
    have HK := hid hkp
    have hbx : wr.cell? ⟨bb, 0, none⟩ = some (.map (some bm)) := (World.cell?_of_block (a := ⟨bb, 0, none⟩) (hkp.2 bb hb1 hb2)).trans hbb
    clear hkp
    by_cases hlt : k < 500
    · have hlook := (HG.out.kp HK.out).2.2.2.1 wr rfl (k : Int)
      obtain ⟨fn, tmps, assign, body, hy, hR⟩ := HY.out ((List.finRange 500).take k) ⟨k, hlt⟩ wr hJ (by simp; omega)
      rw [← fin_take k hlt] at hR
      dsimp only [slotX] at hy
      have HJ := hid hJ
      have HR := hid hR
      clear hJ hR
      gi_wp2
      go_outline
      refine HR.out.mono ?_
      rintro e W' (⟨rfl, hJ', hk'⟩ | ⟨rfl, hJx'⟩)
      · gi_wp2
        exact ⟨⟨k + 1, by omega, by go_num, hJ', HK.out.trans hk'⟩, by simp [intOf]; omega⟩
      · gi_wp2
        refine bodyPost_ret (results_none rfl _ _ _) rfl ?_
        exact ⟨⟨_, rfl⟩, .inr ⟨_, List.take_prefix _ _, hJx'⟩⟩
    · obtain rfl : k = 500 := by omega
      gi_wp2
      go_end0
      exact ⟨⟨_, rfl⟩, .inl ⟨_, rfl, by rwa [List.take_of_length_le (by simp)] at hJ⟩⟩
theorem slots1_stops (F : Fence) (n : Nat) (h85 : F.fn 34) (hro : F.round = none) (hn : 1 ≤ n) (bb bm lo hi : Nat) (G : Int → List Nat) (V : Int → Value) (w : World) (hbb : w.cell? ⟨bb, 0, none⟩ = some (.map (some bm))) (hb1 : lo ≤ bb) (hb2 : bb < hi) (hG : GrpR w lo hi bm G V) :
    SeqStopsK F n Try.prog 34 #[.pointer (some ⟨bb, 0, none⟩)] (slotX V) (KpB lo hi) (fun xs => xs = List.finRange 500) (fun pre => pre <+: List.finRange 500) 500 w := by
  intro l J Jx W hW hJ hJx hY h0
  exact slots1_in F n h85 hro hn l bb bm lo hi G V J Jx hY W (bcs hW hbb) hb1 hb2 (hG.kept (Nat.le_trans hG.2.2.1 hW.size) (fun k _ hk => hW.block k (Nat.lt_of_lt_of_le hk hG.2.2.1))) h0
end Go.Proofs.Ytjjphiecjhijiaa
