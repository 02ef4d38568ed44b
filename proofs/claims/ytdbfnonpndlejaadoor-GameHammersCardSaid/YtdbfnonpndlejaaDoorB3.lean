/- game.mapped walked, at the columns of a card. -/
import Derived.Test.YtdbfnonpndlejaaDoorB2
import Derived.Deep.AppendLies
namespace Go.Proofs.YtdbfnonpndlejaaDoor
open Go.RowKit Go.Shelf

theorem info9 : (Tryd.prog.info? 9).map (fun i => (i.zero, i.size, i.bytes)) = some (some (.string ⟨#[]⟩), 1, 16) := by kernel_rfl
def colsL (t : Int) (card : List LineD) (hams : List Int) (k : Nat) : List (List UInt8) := (List.range k).map fun i => colL t (hams.getD i 0) (card.getD i ⟨0, 0, false⟩)
theorem colsL_succ (t : Int) (card : List LineD) (hams : List Int) (k : Nat) : colsL t card hams (k + 1) = colsL t card hams k ++ [colL t (hams.getD k 0) (card.getD k ⟨0, 0, false⟩)] := by
  unfold colsL
  rw [List.range_succ, List.map_append]
  rfl
theorem colsL_length (t : Int) (card : List LineD) (hams : List Int) (k : Nat) : (colsL t card hams k).length = k := by simp [colsL]
set_option maxRecDepth 100000 in
set_option maxHeartbeats 1000000 in
theorem mapped_any (card : List LineD) (v : Value) (T H : Nat) (t : Int) (hv : Value) (hams : List Int) (w : World) (hcard : SlL w v card) (hT : w.cell? ⟨T, 0, none⟩ = some (.int .i64 t)) (hH : w.cell? ⟨H, 0, none⟩ = some hv) (hhv : SlI w hv hams)
    (hi : card.length ≤ hams.length) (hl : card.length ≤ 1000) (hx : ∀ x ∈ card, 0 ≤ x.pts ∧ x.pts ≤ 8) (hW : TabW w) :
    Calls Tryd.prog 46 #[v, .func (.func 47) #[] #[.pointer (some ⟨T, 0, none⟩), .pointer (some ⟨H, 0, none⟩)]] w fun e w' => ∃ g cap, e = .returned (.slice (some ⟨g, 0, none⟩) card.length cap) ∧ w'.ownsRow w.heap.size 9 1 (.slice (some ⟨g, 0, none⟩) card.length cap) card.length ((colsL t card hams card.length).map bstr) ∧ Below w.heap.size w w' := by
  obtain ⟨i0, hinf, hz0, hz1, hz2⟩ := info_parts info9
  have HCARD := hid hcard
  obtain ⟨ac, cc, rfl, hll, -⟩ := hcard.open
  have hTl := World.block_lt_of_cell? w ⟨T, 0, none⟩ hT
  have hHl := World.block_lt_of_cell? w ⟨H, 0, none⟩ hH
  have HCOL := hid (fun (i : Nat) (x : LineD) (W : World) (hi : i < hams.length) (hx : 0 ≤ x.pts ∧ x.pts ≤ 8) (hb : Below w.heap.size w W) =>
    col_any i x T H t hv hams W (rdB hb hTl hT) (rdB hb hHl hH) (hhv.below hb) hi hx (hW.below hb))
  have HX := hid hx
  clear hcard hT hH hhv hx hW
  go_enter Tryd.func46, Tryd.ntmps46
  go_wp2_with (at_make; refine wpList_make_own _ rfl _ _ 90 rfl w.heap.size 9 i0 (.string ⟨#[]⟩) 1 Tryd.underlying90 hinf hz0 hz1 .i64 .i64 _ card.length rfl rfl rfl (by rw [hz2]; omega) (by unfold maxLen; omega) (Nat.le_refl _) ?_; intro w0 hown0 hgrow0)
  have hb0 : Below w.heap.size w w0 := (Below.refl _ _).grown hgrow0 (Nat.le_refl _) (fun _ h => by cases h)
  clear hgrow0
  go_loopw [5, 13] (fun v i wr => ∃ k : Nat, k ≤ card.length ∧ i = .int .i64 k ∧ wr.ownsRow w.heap.size 9 1 v k ((colsL t card hams k).map bstr) ∧ v ≠ .slice none 0 0 ∧ Below w.heap.size w wr) (fun _ i _ => card.length - (intOf i).toNat)
  case atStart => exact ⟨0, Nat.zero_le _, rfl, hown0, by simp, hb0⟩
  case round =>
    obtain ⟨k, hk, rfl, hown, hne, hb⟩ := hrel
    have HNE := hid hne
    clear hne
    obtain ⟨wo, rfl⟩ : ∃ wo, wo = wr := ⟨_, rfl⟩
    clear hown0 hb0
    by_cases hkl : k < card.length
    · obtain ⟨al2, cl2, ee, -, hxx⟩ := (HCARD.out.below hb).open
      obtain ⟨bb, off, rfl, hbb, hx⟩ := hxx k hkl
      obtain ⟨e1, -, -⟩ := Value.slice.inj ee
      subst e1
      obtain ⟨x0, x1, x2⟩ := hx k hkl
      have HXK := hid (HX.out card[k] (List.getElem_mem hkl))
      have hgd : card.getD k ⟨0, 0, false⟩ = card[k] := by rw [List.getD_eq_getElem?_getD, List.getElem?_eq_getElem hkl]; rfl
      have HS := hid (colsL_succ t card hams k)
      rw [hgd] at HS
      generalize card[k] = x at *
      have HCALL := hid (fun W hb => HCOL.out k x W (by omega) HXK.out hb)
      rw [show x.val = .agg #[.int .i64 x.team, .int .i64 x.pts, .bool x.pow] from rfl] at HCALL
      generalize hc : colL t (hams.getD k 0) x = c at *
      clear hxx hx ee hgd hc
      go_wp2_with fail
      have hb1 : Below w.heap.size w (wo.alloc (.cells #[.int .i64 x.team, .int .i64 x.pts, .bool x.pow] 42)) := hb.alloc hb.size _
      refine (HCALL.out _ hb1).mono ?_
      rintro e w2 ⟨rfl, hb2⟩
      have hb3 : Below w.heap.size w w2 := hb1.trans (hb2.mono hb1.size)
      have hown2 := own_below (hown.alloc _) hb2
      have hsz := hb3.size
      unfold bstr
      clear hb1 hb2 hown x0 x1 x2
      go_wp2_with (at_builtin; refine wpList_append_own _ rfl _ _ 90 rfl w.heap.size 9 i0 (.string ⟨#[]⟩) 1 16 Tryd.underlying90 hinf hz0 hz1 hz2 rfl (by decide) _ _ _ rfl (hown2.alloc _) ⟨w2.heap.size, 0, none⟩ 1 1 [.string ⟨c.toArray⟩] rfl rfl (cell_one_new _ _ _) (ones _ rfl) (by unfold maxLen; omega) (by omega) (by simp; omega) ?_; intro v' w3 hown3 hgrow3 hnil3)
      have hb4 : Below w.heap.size w w3 := (hb3.alloc hsz _).grown hgrow3 (by simp; omega) (fun j hj => (hown2.lt j hj).1)
      go_roundw
      case rel => exact ⟨k + 1, by omega, by go_num, by rw [HS.out, List.map_append]; exact hown3, fun h => absurd (hnil3.1 h).2 (by decide), hb4⟩
      case measure => simp [intOf]; omega
    · obtain rfl : k = card.length := by omega
      go_wp2_with fail
      go_ret
      rcases hown.2 with ⟨rfl, -⟩ | ⟨g, cap, cur, rfl, -⟩
      · exact absurd rfl HNE.out
      · exact ⟨g, cap, rfl, hown, hb⟩
end Go.Proofs.YtdbfnonpndlejaaDoor
