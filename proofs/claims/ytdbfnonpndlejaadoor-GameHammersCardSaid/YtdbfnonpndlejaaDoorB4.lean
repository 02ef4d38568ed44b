/- game.Board walked. -/
import Derived.Test.YtdbfnonpndlejaaDoorM4
import Derived.Test.YtdbfnonpndlejaaDoorS11
import Derived.Deep.AppendLies
namespace Go.Proofs.YtdbfnonpndlejaaDoor
open Go.RowKit Go.Shelf

def BoardPost (r : List UInt8 × Int) (w : World) (e : Ending) (w' : World) : Prop := e = .returned (.tuple #[.string ⟨r.1.toArray⟩, .int .i64 r.2]) ∧ Below w.heap.size w w'
theorem BldI.below {B b : Nat} {l : List UInt8} {w w' : World} (h : BldI B b l w) (hb : Below w.heap.size w w') : BldI B b l w' := by
  have key : ∀ p, Lib.BuilderAtF 89 5 B b p (Lib.byteCells l) w → Lib.BuilderAtF 89 5 B b p (Lib.byteCells l) w' := by
    rintro p ⟨hB, v, hv, hown, hne⟩
    refine ⟨hB, v, (hb.block _ (Array.getElem?_eq_some_iff.1 hv).1).trans hv, hown.kept (row := none) ⟨hb.os, hb.tape, hb.output, hb.size, fun k hk _ => hb.block k hk⟩ (by cases e : v.ownBlock <;> simp), hne⟩
  exact h.elim (fun x => .inl (key _ x)) (fun x => .inr (key _ x))
theorem onesB (cols : List (List UInt8)) : ∀ u ∈ cols.map bstr, u.oneCell' = true := by
  intro u hu
  obtain ⟨c, -, rfl⟩ := List.mem_map.1 hu
  rfl
theorem ptsOf_le {s : StD} (k : Nat) (h : 0 ≤ s.p0 ∧ s.p0 ≤ 320 ∧ 0 ≤ s.p1 ∧ s.p1 ≤ 320) : 0 ≤ ptsOf s k ∧ ptsOf s k ≤ 320 := by
  unfold ptsOf
  split <;> omega
theorem pts_cell {w : World} {B : Nat} {s : StD} (k : Nat) (hk : k < 2) (h : w.heap[B]? = some (.cells #[.int .i64 s.p0, .int .i64 s.p1, .int .i64 s.ends, .int .i64 s.ham, .int .i64 s.win, .bool s.over, .bool s.extra, .bool s.w0, .bool s.w1] 29 (0, 0))) : w.cell? ⟨B, k, none⟩ = some (.int .i64 (ptsOf s k)) := by
  obtain rfl | rfl : k = 0 ∨ k = 1 := by omega
  · exact cellB h 0
  · exact cellB h 1
theorem join_row {W : World} {base g n cap : Nat} {xs : List Value} (parts : List (List UInt8)) (h : W.ownsRow base 9 1 (.slice (some ⟨g, 0, none⟩) n cap) n xs) (hx : parts.map bstr = xs) (hl : (Lib.join parts [32]).length ≤ 20000) (hN : parts.length ≤ 1000) :
    Calls Tryd.prog 50 #[.slice (some ⟨g, 0, none⟩) n cap, .string ⟨#[32]⟩] W fun e w' => e = .returned (.string ⟨(Lib.join parts [32]).toArray⟩) ∧ Below W.heap.size W w' := by
  subst hx
  have hn : n = parts.length := by have := h.1; simp at this; omega
  subst hn
  have hcap : parts.length ≤ cap ∧ parts.length ≤ maxLen := by
    rcases h.2 with ⟨h0, -⟩ | ⟨g2, cap2, cur, e, -, -, h1, h2, -⟩
    · cases h0
    · injection e with _ _ e3
      subst e3
      exact ⟨h1, by omega⟩
  refine join_any g cap parts [32] W (fun j x hx => ?_) (h.lt g rfl).2 (by omega) hcap.1 (by omega)
  · have := h.cells rfl j (bstr x) (by rw [List.getElem?_map, hx]; rfl)
    cases j <;> simpa [Addr.add] using this
theorem flat_len (k : Nat) (hk : k < 2) (f : Nat → List UInt8) (hf : ∀ t, (f t).length ≤ 20000) : ((List.range k).flatMap f).length ≤ 20000 := by
  obtain rfl | rfl : k = 0 ∨ k = 1 := by omega
  · simp
  · have := hf 0
    simpa [List.range_succ] using this
/-- One letter of "ry". -/
theorem next_ry (W : World) (IT k : Nat) (hk : k < 2) (hit : W.heap[IT]? = some (.stringIter ⟨#[114, 121]⟩ k)) : ∃ lt : Int,
    (∀ ty, (Instr.next (.pointer (some ⟨IT, 0, none⟩)) true ty).run Tryd.prog W = .ok (.tuple #[.bool true, .int .i64 k, .int .i32 lt]) (W.iterAt IT ⟨#[114, 121]⟩ (k + 1))) ∧
    ∀ W', (convert 21 9 (.int .i32 lt)).run Tryd.prog W' = .ok (.string ⟨#[if (k : Int) = 0 then 114 else 121]⟩) W' := by
  obtain rfl | rfl : k = 0 ∨ k = 1 := by omega
  · refine ⟨114, fun ty => Lib.run_next_ascii_at W IT ⟨#[114, 121]⟩ 0 ty hit (by decide) (by decide), fun W' => ?_⟩
    simp [convert, run_underlying Tryd.underlying21, run_underlying Tryd.underlying9, Conv.intToString]
    rfl
  · refine ⟨121, fun ty => Lib.run_next_ascii_at W IT ⟨#[114, 121]⟩ 1 ty hit (by decide) (by decide), fun W' => ?_⟩
    simp [convert, run_underlying Tryd.underlying21, run_underlying Tryd.underlying9, Conv.intToString]
    rfl
set_option maxRecDepth 100000 in
set_option maxHeartbeats 2000000 in
theorem board_any (m : MatchD) (first : Int) (card : List LineD) (v : Value) (con : Int) (w : World) (hcard : SlL w v card) (hW : TabW w) :
    Calls Tryd.prog 15 #[m.val, .int .i64 first, v, .int .i64 con] w (BoardPost (boardR m first card con) w) := by
  have HCARD := hid hcard
  obtain ⟨i0, hinf, hz0, hz1, hz2⟩ := info_parts info9
  have HW := hid hW
  obtain ⟨ac, cc, rfl, hll, -⟩ := hcard.open
  have HMV := hid (show m.val = .agg #[.int .i64 m.ends, .int .i64 m.most, .int .i64 m.early, .bool m.change, .bool m.power] from rfl)
  have HRA := hid (fun W (h : SlL W (.slice ac card.length cc) card) => replay_any m first card (.slice ac card.length cc) con W h)
  have HHM := hid (fun W (h : SlL W (.slice ac card.length cc) card) => hammers_any m first card (.slice ac card.length cc) W h)
  rw [HMV.out] at HRA HHM
  rw [HMV.out]
  have HR := hid (boardR.eq_1 m first card con)
  have HOK := hid (replayR_ok m first card con)
  have HPT := hid (replayR_pts m first card con)
  obtain ⟨r, hr⟩ : ∃ r, replayR m first card con = r := ⟨_, rfl⟩
  obtain ⟨s, k1, code⟩ := r
  rw [hr] at HR HRA HOK HPT
  clear hcard hr hW
  go_enter Tryd.func15, Tryd.ntmps15
  go_upto_region 1 with fail
  have hb4 := (Below.refl w.heap.size w).alloc (Nat.le_refl _) (.cells #[.int .i64 m.ends, .int .i64 m.most, .int .i64 m.early, .bool m.change, .bool m.power] 23)
  have hm4 := heap_alloc_new w (.cells #[.int .i64 m.ends, .int .i64 m.most, .int .i64 m.early, .bool m.change, .bool m.power] 23)
  generalize w.alloc (.cells #[.int .i64 m.ends, .int .i64 m.most, .int .i64 m.early, .bool m.change, .bool m.power] 23) = W4 at *
  have HB4 := hid hb4
  have HM4 := hid (show W4.heap[w.heap.size]? = some (.cells m.arr 23 (0, 0)) from hm4)
  obtain ⟨m0, m1, m2, m3, m4⟩ := cells5 hm4
  clear hb4 hm4
  go_wp2_with fail
  refine (HRA.out _ (HCARD.out.below HB4.out)).mono ?_
  rintro e W5 ⟨rfl, hb5⟩
  dsimp only
  unfold StD.val StD.arr
  have HB5 := hid (HB4.out.trans (hb5.mono HB4.out.size))
  have HM5 := hid ((hb5.block _ (Array.getElem?_eq_some_iff.1 HM4.out).1).trans HM4.out)
  clear hb5 m0 m1 m2 m3 m4
  by_cases hc : code = 0
  · have hcb : (code != 0) = false := by simp [hc]
    rw [if_pos hc] at HR
    have HC := hid (HOK.out hc)
    have HP := hid (HPT.out hc)
    rw [HC.out.hams] at HHM
    clear hc
    go_upto_region 4 with fail
    obtain ⟨W6, hW6⟩ : ∃ W6, W5.alloc (.cells #[.int .i64 s.p0, .int .i64 s.p1, .int .i64 s.ends, .int .i64 s.ham, .int .i64 s.win, .bool s.over, .bool s.extra, .bool s.w0, .bool s.w1] 29) = W6 := ⟨_, rfl⟩
    have hb6 : Below W5.heap.size W5 W6 := by rw [← hW6]; exact (Below.refl _ _).alloc (Nat.le_refl _) _
    have HS6 := hid (show W6.heap[W5.heap.size]? = some (.cells #[.int .i64 s.p0, .int .i64 s.p1, .int .i64 s.ends, .int .i64 s.ham, .int .i64 s.win, .bool s.over, .bool s.extra, .bool s.w0, .bool s.w1] 29 (0, 0)) by rw [← hW6]; exact heap_alloc_new W5 _)
    have HB6 := hid (HB5.out.trans (hb6.mono HB5.out.size))
    have HM6 := hid ((hb6.block _ (Array.getElem?_eq_some_iff.1 HM5.out).1).trans HM5.out)
    obtain ⟨m0, m1, m2, m3, m4⟩ := cells5 HM6.out
    rw [hW6]
    clear hW6 hb6
    go_wp2_with fail
    refine (HHM.out _ (HCARD.out.below HB6.out)).mono ?_
    rintro e W7 ⟨⟨hv, rfl, hsl⟩, hb7⟩
    dsimp only
    obtain ⟨ah, ch, rfl, -, -⟩ := hsl.open
    generalize hhl : hamL m first card (card.length + 1) = hams at *
    have HLEN := hid (show card.length ≤ hams.length by rw [← hhl]; exact HC.out.len)
    have HSL7 := hid hsl
    have HB7 := hid (HB6.out.trans (hb7.mono HB6.out.size))
    have HS7 := hid ((hb7.block _ (Array.getElem?_eq_some_iff.1 HS6.out).1).trans HS6.out)
    clear hsl hb7 m0 m1 m2 m3 m4 hhl
    go_upto_region 5 with fail
    have hb8 : Below W7.heap.size W7 (W7.alloc (.cells #[.slice ah hams.length ch] 33)) := (Below.refl _ _).alloc (Nat.le_refl _) _
    have HH8 := hid (heap_alloc_new W7 (.cells #[.slice ah hams.length ch] 33))
    generalize W7.alloc (.cells #[.slice ah hams.length ch] 33) = W8 at *
    have HB8 := hid (HB7.out.trans (hb8.mono HB7.out.size))
    have HS8 := hid ((hb8.block _ (Array.getElem?_eq_some_iff.1 HS7.out).1).trans HS7.out)
    have HSL8 := hid (HSL7.out.below hb8)
    clear hb8
    go_wp2_with fail
    go_loopw [] (fun wr => ∃ k : Nat, k ≤ 2 ∧ BldI W8.heap.size W8.heap.size ((List.range k).flatMap fun (t : Nat) => rowL t first con card hams s) wr ∧ wr.heap[W8.heap.size + 1]? = some (.stringIter ⟨#[114, 121]⟩ k) ∧ Below W8.heap.size W8 wr) (fun wr => 2 - wr.iterPos (W8.heap.size + 1))
    case atStart =>
      refine ⟨0, by omega, (Lib.IsBuilderF.of (Lib.fresh_isBuilder 89 5 W8)).alloc _, ?_, ((Below.refl _ _).alloc (Nat.le_refl _) _).alloc (by simp) _⟩
      have := World.iter_heap (W8.alloc (.cells #[.pointer none, .slice none 0 0] 89)) ⟨#[114, 121]⟩ 0
      simpa using this
    case round =>
      obtain ⟨k, hk2, hI, hit, hb⟩ := hrel
      obtain ⟨wo, rfl⟩ : ∃ wo, wo = wr := ⟨_, rfl⟩
      have hsz : W8.heap.size + 1 < wo.heap.size := (Array.getElem?_eq_some_iff.1 hit).1
      by_cases hk : k < 2
      · obtain ⟨lt, hnx, hcv⟩ := next_ry wo (W8.heap.size + 1) k hk hit
        have hI2 : BldI _ _ _ _ := hI.iterAt hit (k + 1)
        have hit2 := Lib.iterAt_heap wo (W8.heap.size + 1) ⟨#[114, 121]⟩ k (k + 1) hit
        have hb2 := Lib.below_iterAt hb (k := W8.heap.size + 1) (by omega) ⟨#[114, 121]⟩ (k + 1)
        have hsz2 : W8.heap.size + 1 < (wo.iterAt (W8.heap.size + 1) ⟨#[114, 121]⟩ (k + 1)).heap.size := by rw [Lib.iterAt_size]; omega
        go_upto_region 8 with fail
        generalize wo.iterAt (W8.heap.size + 1) ⟨#[114, 121]⟩ (k + 1) = W9 at *
        have HI9 := hid hI2
        have HIT0 := hid hit
        have HT9 := hid hit2
        have HB9 := hid hb2
        have HW9 := hid (HW.out.below (HB8.out.trans (hb2.mono HB8.out.size)))
        have HCD9 := hid (HCARD.out.below (HB8.out.trans (hb2.mono HB8.out.size)))
        have HH9 := hid (cellB ((hb2.block _ (Array.getElem?_eq_some_iff.1 HH8.out).1).trans HH8.out) 0)
        have HSL9 := hid (HSL8.out.below hb2)
        have HS9 := hid ((hb2.block _ (Array.getElem?_eq_some_iff.1 HS8.out).1).trans HS8.out)
        obtain ⟨lc, hlc⟩ : ∃ c : UInt8, (if (k : Int) = 0 then 114 else 121) = c := ⟨_, rfl⟩
        rw [hlc] at hcv
        have HLC := hid hlc
        have HSZ := hid hsz2
        clear hI2 hit2 hb2 hlc hnx hit hI hb hsz hsz2
        obtain ⟨mk, hmk⟩ : ∃ c : UInt8, (if (k : Int) = first then 42 else 32) = c := ⟨_, rfl⟩
        obtain ⟨hd, hhd⟩ : ∃ l, rowHead k first = l := ⟨_, rfl⟩
        have hcat : (⟨#[lc]⟩ : ByteArray) ++ ⟨#[mk]⟩ = ⟨hd.toArray⟩ := by
          rw [← hhd, ← HLC.out, ← hmk]
          exact bapp [if (k : Int) = 0 then 114 else 121] [if (k : Int) = first then 42 else 32]
        have hdl : hd.length = 2 := by rw [← hhd]; rfl
        obtain ⟨W10, hW10⟩ : ∃ W10, W9.alloc (.cells #[.int .i64 k] 3) = W10 := ⟨_, rfl⟩
        have hb10 : Below W9.heap.size W9 W10 := by rw [← hW10]; exact (Below.refl _ _).alloc (Nat.le_refl _) _
        have ht10 : W10.heap[W9.heap.size]? = some (.cells #[.int .i64 k] 3 (0, 0)) := by rw [← hW10]; exact heap_alloc_new W9 _
        have HT10 := hid ht10
        have HB10 := hid hb10
        have htc := cellB ht10 0
        have HMAP := hid (mapped_any card (.slice ac card.length cc) W9.heap.size W7.heap.size k (.slice ah hams.length ch) hams W10 (HCD9.out.below hb10) htc (bcs hb10 HH9.out) (HSL9.out.below hb10) HLEN.out (by have := HC.out.few; omega) HC.out.line (HW9.out.below hb10))
        have HHD := hid hhd
        go_upto_region 9 with fail
        clear hW10 ht10 hhd
        obtain ⟨bf, hbf⟩ : ∃ b, ((k : Int) == first) = b := ⟨_, rfl⟩
        have hmk2 : mk = if bf then 42 else 32 := by rw [← hmk, ← hbf]; simp
        clear hmk
        cases bf
        all_goals
          simp only [if_true, if_false, Bool.false_eq_true] at hmk2
          subst hmk2
          go_upto_region 12 with fail
          go_wp2_with fail
          refine HMAP.out.mono ?_
          rintro e W11 ⟨g, cap, rfl, hown, hb11⟩
          dsimp only
          have HCL := hid (colsL_length k card hams card.length)
          obtain ⟨cols, hcols⟩ : ∃ c, colsL k card hams card.length = c := ⟨_, rfl⟩
          rw [hcols] at HCL hown
          have HCO := hid hcols
          have hb12 : Below W9.heap.size W9 W11 := HB10.out.trans (hb11.mono HB10.out.size)
          have HB12 := hid hb12
          have HT11 := hid ((hb11.block _ (Array.getElem?_eq_some_iff.1 HT10.out).1).trans HT10.out)
          have hz11 := hb11.size
          have hn1 : card.length ≤ 40 := HC.out.few
          have HB11 := hid hb11
          clear hb11 hcols hb12 htc
          go_upto_region 14 with (at_builtin; refine wpList_append_own _ rfl _ _ 90 rfl W10.heap.size 9 i0 (.string ⟨#[]⟩) 1 16 Tryd.underlying90 hinf hz0 hz1 hz2 rfl (by decide) _ 1 [.string ⟨hd.toArray⟩] rfl (World.ownsRow_lit W11 #[.string ⟨hd.toArray⟩] 1 hz11 (by decide) rfl) ⟨g, 0, none⟩ card.length cap (cols.map bstr) rfl (by rw [List.length_map, HCL.out, Nat.mul_one]) ((hown.alloc _).cells rfl) (onesB cols) (by unfold maxLen; omega) (by omega) (by simp; omega) ?_; intro v1 W12 hown12 hg12 hn12; obtain ⟨g2, cap2, rfl, -, -⟩ := hown12.form (by omega))
          have hb12 : Below W10.heap.size W10 W12 := (HB11.out.alloc HB11.out.size _).grown hg12 (by simp; omega) (fun j hj => ((World.ownsRow_lit (base := W10.heap.size) (e := 9) (size := 1) W11 #[.string ⟨hd.toArray⟩] 1 hz11 (by decide) rfl).lt j hj).1)
          have HB12 := hid hb12
          have HC12 := hid (HB10.out.trans (hb12.mono HB10.out.size))
          have htc12 := cellB ((hb12.block _ (Array.getElem?_eq_some_iff.1 HT10.out).1).trans HT10.out) 0
          have hpt12 := pts_cell k hk ((HC12.out.block _ (Array.getElem?_eq_some_iff.1 HS9.out).1).trans HS9.out)
          have hkI : (k : Int) < 2 := by omega
          have hptb := ptsOf_le k HP.out
          have HIT := hid (itoa_any (ptsOf s k) (by omega) (by omega) W12 (HW9.out.below HC12.out))
          have HITL := hid (itoa_len (ptsOf s k) hptb.1)
          have hz12 := hb12.size
          clear hown hg12 hn12 hb12
          go_wp2_with fail
          refine HIT.out.mono ?_
          rintro e W13 ⟨rfl, hb13⟩
          unfold bstr
          dsimp only
          obtain ⟨it, hit⟩ : ∃ l, Lib.itoa (ptsOf s k) = l := ⟨_, rfl⟩
          rw [hit] at HITL ⊢
          have HITE := hid hit
          have HB13 := hid (HB12.out.trans (hb13.mono HB12.out.size))
          have hown13 := own_below hown12 hb13
          have hz13 := HB13.out.size
          clear hb13 hit hown12 htc12 hpt12
          go_upto_region 15 with (at_builtin; refine wpList_append_own _ rfl _ _ 90 rfl W10.heap.size 9 i0 (.string ⟨#[]⟩) 1 16 Tryd.underlying90 hinf hz0 hz1 hz2 rfl (by decide) _ (1 + card.length) _ rfl (hown13.alloc _) ⟨W13.heap.size, 0, none⟩ 2 2 [.string ⟨#[61]⟩, .string ⟨it.toArray⟩] rfl rfl ((World.ownsRow_lit (base := W10.heap.size) (e := 9) (size := 1) W13 #[.string ⟨#[61]⟩, .string ⟨it.toArray⟩] 2 hz13 (by decide) rfl).cells rfl) (by intro u hu; simp at hu; rcases hu with rfl | rfl <;> rfl) (by unfold maxLen; omega) (by omega) (by simp; omega) ?_; intro v1 W14 hown14 hg14 hn14; obtain ⟨g3, cap3, rfl, -, -⟩ := hown14.form (by omega))
          have hb14 : Below W10.heap.size W10 W14 := (HB13.out.alloc HB13.out.size _).grown hg14 (by simp; omega) (fun j hj => (hown13.lt j hj).1)
          have HB14 := hid hb14
          have HC14 := hid (HB10.out.trans (hb14.mono HB10.out.size))
          have HT14 := hid ((hb14.block _ (Array.getElem?_eq_some_iff.1 HT10.out).1).trans HT10.out)
          have htc14 := cellB HT14.out 0
          have hz14 := hb14.size
          clear hg14 hn14 hb14 hown13
          obtain ⟨bc, hbc⟩ : ∃ b, (con == (k : Int)) = b := ⟨_, rfl⟩
          have HPRT := hid (show rowParts k first con card hams s = hd :: (cols ++ [[61], it] ++ (if bc then [[120]] else [])) by
            unfold rowParts
            rw [HHD.out, HCO.out, HITE.out, ← hbc]
            simp)
          have HPL := hid (parts_len k first con card hams s)
          have HRL := hid (row_len k first con card hams s HC.out.few HC.out.line (ptsOf_le k HP.out))
          have HJL := hid (show (Lib.join (rowParts k first con card hams s) [32]).length ≤ 20000 by have h := HRL.out; unfold rowL at h; rw [List.length_append] at h; omega)
          have HFL := hid (flat_len k hk (fun (t : Nat) => rowL t first con card hams s) (fun t => row_len t first con card hams s HC.out.few HC.out.line (ptsOf_le t HP.out)))
          obtain ⟨J, hJ⟩ : ∃ J, Lib.join (rowParts k first con card hams s) [32] = J := ⟨_, rfl⟩
          have hcat2 : (⟨J.toArray⟩ : ByteArray) ++ ⟨#[10]⟩ = ⟨(rowL k first con card hams s).toArray⟩ := by
            unfold rowL
            rw [hJ]
            exact bapp J [10]
          have hjf : (9223372036854775807 < J.length + 1) = False := by
            have := HJL.out
            rw [hJ] at this
            simp; omega
          have HJ := hid hJ
          clear hJ
          cases bc with
          | false =>
            have HC15 := hid HC14.out
            have hjr := join_row (rowParts k first con card hams s) hown14 (by rw [HPRT.out]; simp [bstr]) HJL.out (by have := HPL.out; omega)
            rw [HJ.out] at hjr
            have HJR := hid hjr
            clear hjr hown14
            go_wp2_with (go_at_call 50; refine HJR.out.mono ?_; rintro e W16 ⟨rfl, hb16⟩)
            have hb17 : Below W9.heap.size W9 W16 := HC15.out.trans (hb16.mono HC15.out.size)
            have hi16 := HI9.out.below hb17
            have ht16 := (hb17.block _ (Array.getElem?_eq_some_iff.1 HT9.out).1).trans HT9.out
            have hw8 : Below W8.heap.size W8 W16 := HB9.out.trans (hb17.mono HB9.out.size)
            refine (write_any W8.heap.size W8.heap.size _ (rowL k first con card hams s) W16 hi16 (by have := HRL.out; have := HFL.out; omega) hw8.size).mono ?_
            rintro e W17 ⟨⟨v17, rfl⟩, hi17, hb18, ho17⟩
            have hit17 := ho17.iter ht16 (by omega)
            go_wp2_with fail
            go_roundw
            case rel => exact ⟨k + 1, by omega, by rw [List.range_succ, List.flatMap_append]; simpa using hi17, hit17, hw8.trans hb18⟩
            case measure =>
              simp only [World.iterPos, hit17, HIT0.out]
              omega
          | true =>
            go_upto_region 17 with (at_builtin; refine wpList_append_own _ rfl _ _ 90 rfl W10.heap.size 9 i0 (.string ⟨#[]⟩) 1 16 Tryd.underlying90 hinf hz0 hz1 hz2 rfl (by decide) _ (1 + card.length + 2) _ rfl (hown14.alloc _) ⟨W14.heap.size, 0, none⟩ 1 1 [.string ⟨#[120]⟩] rfl rfl (cell_one_new _ _ _) (ones _ rfl) (by unfold maxLen; omega) (by omega) (by simp; omega) ?_; intro v1 W15 hown15 hg15 hn15; obtain ⟨g4, cap4, rfl, -, -⟩ := hown15.form (by omega))
            have hb15 : Below W10.heap.size W10 W15 := (HB14.out.alloc HB14.out.size _).grown hg15 (by simp; omega) (fun j hj => (hown14.lt j hj).1)
            clear hg15 hn15 hown14
            have HC15 := hid (HB10.out.trans (hb15.mono HB10.out.size))
            have hjr := join_row (rowParts k first con card hams s) hown15 (by rw [HPRT.out]; simp [bstr]) HJL.out (by have := HPL.out; omega)
            rw [HJ.out] at hjr
            have HJR := hid hjr
            clear hjr hown15
            go_wp2_with (go_at_call 50; refine HJR.out.mono ?_; rintro e W16 ⟨rfl, hb16⟩)
            have hb17 : Below W9.heap.size W9 W16 := HC15.out.trans (hb16.mono HC15.out.size)
            have hi16 := HI9.out.below hb17
            have ht16 := (hb17.block _ (Array.getElem?_eq_some_iff.1 HT9.out).1).trans HT9.out
            have hw8 : Below W8.heap.size W8 W16 := HB9.out.trans (hb17.mono HB9.out.size)
            refine (write_any W8.heap.size W8.heap.size _ (rowL k first con card hams s) W16 hi16 (by have := HRL.out; have := HFL.out; omega) hw8.size).mono ?_
            rintro e W17 ⟨⟨v17, rfl⟩, hi17, hb18, ho17⟩
            have hit17 := ho17.iter ht16 (by omega)
            go_wp2_with fail
            go_roundw
            case rel => exact ⟨k + 1, by omega, by rw [List.range_succ, List.flatMap_append]; simpa using hi17, hit17, hw8.trans hb18⟩
            case measure =>
              simp only [World.iterPos, hit17, HIT0.out]
              omega
      · obtain rfl : k = 2 := by omega
        have hnx : ∀ ty, (Instr.next (.pointer (some ⟨W8.heap.size + 1, 0, none⟩)) true ty).run Tryd.prog wo = _ := fun ty => Lib.run_next_end_at wo (W8.heap.size + 1) ⟨#[114, 121]⟩ 2 ty hit (by decide)
        go_wp2_with (go_at_call 51; refine (string_any _ _ _ _ hI (by omega)).mono ?_; rintro e w9 ⟨rfl, hb9⟩)
        have hbw : Below w.heap.size w w9 := (HB8.out.trans (hb.mono HB8.out.size)).trans (hb9.mono (by have := HB8.out.size; have := hb.size; omega))
        go_wp2_with fail
        refine bodyPost_ret (v := .tuple #[bstr (rowL 0 first con card hams s ++ rowL 1 first con card hams s), .int .i64 0]) (by simp [results, Tryd.results15, go_sem]) rfl ⟨by rw [HR.out]; rfl, hbw⟩
  · have hcb : (code != 0) = true := by simp [hc]
    rw [if_neg hc] at HR
    clear hc
    go_wp2_with fail
    exact bodyPost_ret (v := .tuple #[.string ⟨#[]⟩, .int .i64 code]) (by simp [results, Tryd.results15, go_sem]) rfl ⟨by rw [HR.out], HB5.out.alloc HB5.out.size _⟩
end Go.Proofs.YtdbfnonpndlejaaDoor
