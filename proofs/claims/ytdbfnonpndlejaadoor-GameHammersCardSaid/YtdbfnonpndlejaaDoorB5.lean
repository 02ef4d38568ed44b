/- besomref08.Board walked. -/
import Derived.Test.YtdbfnonpndlejaaDoorB4
import Derived.Test.YtdbfnonpndlejaaDoorS10
namespace Go.Proofs.YtdbfnonpndlejaaDoor
open Go.RowKit Go.Shelf

def flatC (cols : List (List UInt8)) : List UInt8 := cols.flatMap fun c => 32 :: c
theorem flatC_snoc (cols : List (List UInt8)) (c : List UInt8) : flatC (cols ++ [c]) = flatC cols ++ [32] ++ c := by simp [flatC]
theorem rowL_ref (t first con : Int) (card : List LineD) (hams : List Int) (s : StD) :
    rowL t first con card hams s = rowHead t first ++ flatC (colsL t card hams card.length) ++ [32, 61, 32] ++ Lib.itoa (ptsOf s t) ++ (if con = t then [32, 120] else []) ++ [10] := by
  unfold rowL rowParts
  rw [Lib.join_cons]
  unfold Lib.joinTail flatC
  by_cases hc : con = t
  · rw [if_pos hc, if_pos hc]
    simp [List.flatMap_def]
  · rw [if_neg hc, if_neg hc]
    simp [List.flatMap_def]
theorem mark_if (k : Nat) (first : Int) : (if (k : Int) = first then (42 : UInt8) else 32) = if (first == (k : Int)) = true then 42 else 32 := by
  by_cases h : (k : Int) = first
  · rw [if_pos h, if_pos (by simp [h])]
  · rw [if_neg h, if_neg (by simp; omega)]
theorem itoa_nat (n : Int) (h : 0 ≤ n) : Lib.itoa n = Lib.decDigits n.toNat := by unfold Lib.itoa; rw [if_neg (by omega)]
/-- besomref02.Number at a number that is not negative. -/
theorem number_any (n : Int) (h : 0 ≤ n ∧ n ≤ 1000) (w : World) : Calls Tryd.prog 52 #[.int .i64 n] w fun e w' => e = .returned (.string ⟨(Lib.itoa n).toArray⟩) ∧ Below w.heap.size w w' := by
  rw [itoa_nat n h.1]
  have q := refNumber_any n.toNat (by omega) w
  rw [show ((n.toNat : Nat) : Int) = n by omega] at q
  exact q
theorem flat_le (n : Nat) (cols : List (List UInt8)) (h : ∀ c ∈ cols, c.length ≤ n) : (flatC cols).length ≤ (n + 1) * cols.length := by
  induction cols with
  | nil => simp [flatC]
  | cons c cols ih =>
    have h1 := ih (fun x hx => h x (List.mem_cons_of_mem _ hx))
    have h2 := h c List.mem_cons_self
    simp only [flatC, List.flatMap_cons, List.length_append, List.length_cons] at h1 ⊢
    rw [Nat.mul_succ]
    omega
theorem cols_le (t : Int) (card : List LineD) (hams : List Int) (k : Nat) (hk : k ≤ card.length) (hl : ∀ x ∈ card, 0 ≤ x.pts ∧ x.pts ≤ 8) : ∀ c ∈ colsL t card hams k, c.length ≤ 10 := by
  intro c hc
  unfold colsL at hc
  obtain ⟨i, hi, rfl⟩ := List.mem_map.1 hc
  have hi' : i < card.length := by have : i < k := by simpa using hi
                                   omega
  have hd : card.getD i ⟨0, 0, false⟩ = card[i] := by rw [List.getD_eq_getElem?_getD, List.getElem?_eq_getElem hi']; rfl
  rw [hd]
  exact colL_len t (hams.getD i 0) card[i] (hl _ (List.getElem_mem hi'))
set_option maxRecDepth 100000 in
set_option maxHeartbeats 2000000 in
theorem refBoard_any (m : MatchD) (first : Int) (card : List LineD) (v : Value) (con : Int) (w : World) (hcard : SlL w v card) (hcap : ∀ a n c, v = .slice a n c → n ≤ c) :
    Calls Tryd.prog 16 #[m.val, .int .i64 first, v, .int .i64 con] w (BoardPost (boardR m first card con) w) := by
  have HCARD := hid hcard
  obtain ⟨ac, cc, rfl, hll, -⟩ := hcard.open
  have HMV := hid (show m.val = .agg #[.int .i64 m.ends, .int .i64 m.most, .int .i64 m.early, .bool m.change, .bool m.power] from rfl)
  have HRA := hid (fun W (h : SlL W (.slice ac card.length cc) card) => refReplay_any m first card (.slice ac card.length cc) con W h)
  have HHM := hid (fun W (h : SlL W (.slice ac card.length cc) card) => refHammers_any m first card (.slice ac card.length cc) W h hcap)
  rw [HMV.out] at HRA HHM
  rw [HMV.out]
  have HR := hid (boardR.eq_1 m first card con)
  have HOK := hid (replayR_ok m first card con)
  have HPT := hid (replayR_pts m first card con)
  obtain ⟨r, hr⟩ : ∃ r, replayR m first card con = r := ⟨_, rfl⟩
  obtain ⟨s, k1, code⟩ := r
  rw [hr] at HR HRA HOK HPT
  clear hcard hr hcap
  go_enter Tryd.func16, Tryd.ntmps16
  go_upto_region 1 with fail
  have hb4 := (Below.refl w.heap.size w).alloc (Nat.le_refl _) (.cells #[.int .i64 m.ends, .int .i64 m.most, .int .i64 m.early, .bool m.change, .bool m.power] 23)
  have hm4 := heap_alloc_new w (.cells #[.int .i64 m.ends, .int .i64 m.most, .int .i64 m.early, .bool m.change, .bool m.power] 23)
  generalize w.alloc (.cells #[.int .i64 m.ends, .int .i64 m.most, .int .i64 m.early, .bool m.change, .bool m.power] 23) = W4 at *
  have HB4 := hid hb4
  have HM4 := hid (show W4.heap[w.heap.size]? = some (.cells m.arr 23 (0, 0)) from hm4)
  obtain ⟨m0, m1, m2, m3, m4⟩ := cells5 hm4
  clear hb4 hm4
  go_wp2_with fail
  refine (HRA.out _ (HCARD.out.below HB4.out)).mono ?_
  rintro e W5 ⟨rfl, hb5⟩
  dsimp only
  unfold StD.val StD.arr
  have HB5 := hid (HB4.out.trans (hb5.mono HB4.out.size))
  have HM5 := hid ((hb5.block _ (Array.getElem?_eq_some_iff.1 HM4.out).1).trans HM4.out)
  clear hb5 m0 m1 m2 m3 m4
  by_cases hc : code = 0
  · have hcb : (code != 0) = false := by simp [hc]
    rw [if_pos hc] at HR
    have HC := hid (HOK.out hc)
    have HP := hid (HPT.out hc)
    rw [HC.out.hams] at HHM
    clear hc
    go_upto_region 4 with fail
    obtain ⟨W6, hW6⟩ : ∃ W6, W5.alloc (.cells #[.int .i64 s.p0, .int .i64 s.p1, .int .i64 s.ends, .int .i64 s.ham, .int .i64 s.win, .bool s.over, .bool s.extra, .bool s.w0, .bool s.w1] 29) = W6 := ⟨_, rfl⟩
    have hb6 : Below W5.heap.size W5 W6 := by rw [← hW6]; exact (Below.refl _ _).alloc (Nat.le_refl _) _
    have HS6 := hid (show W6.heap[W5.heap.size]? = some (.cells #[.int .i64 s.p0, .int .i64 s.p1, .int .i64 s.ends, .int .i64 s.ham, .int .i64 s.win, .bool s.over, .bool s.extra, .bool s.w0, .bool s.w1] 29 (0, 0)) by rw [← hW6]; exact heap_alloc_new W5 _)
    have HB6 := hid (HB5.out.trans (hb6.mono HB5.out.size))
    have HM6 := hid ((hb6.block _ (Array.getElem?_eq_some_iff.1 HM5.out).1).trans HM5.out)
    obtain ⟨m0, m1, m2, m3, m4⟩ := cells5 HM6.out
    rw [hW6]
    clear hW6 hb6
    go_wp2_with fail
    refine (HHM.out _ (HCARD.out.below HB6.out)).mono ?_
    rintro e W7 ⟨⟨hv, rfl, hsl⟩, hb7⟩
    dsimp only
    obtain ⟨ah, ch, rfl, -, -⟩ := hsl.open
    generalize hhl : hamL m first card (card.length + 1) = hams at *
    have HLEN := hid (show card.length ≤ hams.length by rw [← hhl]; exact HC.out.len)
    have HSL7 := hid hsl
    have HB7 := hid (HB6.out.trans (hb7.mono HB6.out.size))
    have HS7 := hid ((hb7.block _ (Array.getElem?_eq_some_iff.1 HS6.out).1).trans HS6.out)
    clear hsl hb7 m0 m1 m2 m3 m4 hhl
    go_wp2_with fail
    go_loopw [15, 16] (fun o i wr => ∃ k : Nat, k ≤ 2 ∧ i = .int .i64 k ∧ o = .string ⟨((List.range k).flatMap fun (t : Nat) => rowL t first con card hams s).toArray⟩ ∧ Below W7.heap.size W7 wr) (fun _ i _ => 2 - (intOf i).toNat)
    case atStart => exact ⟨0, by omega, rfl, rfl, Below.refl _ _⟩
    case round =>
      obtain ⟨k, hk2, rfl, rfl, hb⟩ := hrel
      obtain ⟨wo, rfl⟩ : ∃ wo, wo = wr := ⟨_, rfl⟩
      by_cases hk : k < 2
      · have hkI : (k : Int) < 2 := by omega
        have HBO := hid hb
        have HFL := hid (flat_len k hk (fun (t : Nat) => rowL t first con card hams s) (fun t => row_len t first con card hams s HC.out.few HC.out.line (ptsOf_le t HP.out)))
        obtain ⟨F, hF⟩ : ∃ F, (List.range k).flatMap (fun (t : Nat) => rowL t first con card hams s) = F := ⟨_, rfl⟩
        rw [hF] at HFL
        rw [hF]
        have HF := hid hF
        obtain ⟨lc, hlc⟩ : ∃ c : UInt8, (if (k : Int) = 0 then 114 else 121) = c := ⟨_, rfl⟩
        obtain ⟨mk, hmk⟩ : ∃ c : UInt8, (if (k : Int) = first then 42 else 32) = c := ⟨_, rfl⟩
        obtain ⟨hd, hhd⟩ : ∃ l, rowHead k first = l := ⟨_, rfl⟩
        have hcat : (⟨#[lc]⟩ : ByteArray) ++ ⟨#[mk]⟩ = ⟨hd.toArray⟩ := by
          rw [← hhd, ← hlc, ← hmk]
          exact bapp [if (k : Int) = 0 then 114 else 121] [if (k : Int) = first then 42 else 32]
        have hdl : hd.length = 2 := by rw [← hhd]; rfl
        have HHD := hid hhd
        obtain ⟨bk, hbk⟩ : ∃ b, ((k : Int) == 1) = b := ⟨_, rfl⟩
        obtain ⟨bf, hbf⟩ : ∃ b, (first == (k : Int)) = b := ⟨_, rfl⟩
        have hmk2 : mk = if bf then 42 else 32 := by rw [← hmk, ← hbf]; exact mark_if k first
        have hlc2 : lc = if bk then 121 else 114 := by
          rw [← hlc, ← hbk]
          rcases (show k = 0 ∨ k = 1 by omega) with rfl | rfl <;> rfl
        clear hmk hlc hhd hF hb
        go_upto_region 9 with fail
        cases bk <;> cases bf
        all_goals
          simp only [if_true, if_false, Bool.false_eq_true] at hmk2 hlc2
          subst hmk2 hlc2
          go_upto_region 15 with fail
          go_wp2_with fail
          go_loopw [17, 18] (fun u i wr => ∃ j : Nat, j ≤ card.length ∧ i = .int .i64 j ∧ u = .string ⟨(hd ++ flatC (colsL k card hams j)).toArray⟩ ∧ Below W7.heap.size W7 wr) (fun _ i _ => card.length - (intOf i).toNat)
          case atStart => exact ⟨0, Nat.zero_le _, rfl, by simp [colsL, flatC], HBO.out⟩
          case round =>
            obtain ⟨j, hj, rfl, rfl, hbj⟩ := hrel
            obtain ⟨wj, rfl⟩ : ∃ wj, wj = wr := ⟨_, rfl⟩
            have HBJ := hid hbj
            have hfw := HC.out.few
            have hSl := flat_le 10 (colsL k card hams j) (cols_le k card hams j hj HC.out.line)
            rw [colsL_length] at hSl
            by_cases hjl : j < card.length
            · have hln := HC.out.line card[j] (List.getElem_mem hjl)
              obtain ⟨al2, cl2, ee, -, hxx⟩ := (HCARD.out.below (HB7.out.trans (hbj.mono HB7.out.size))).open
              obtain ⟨bb, off, rfl, hbb, hx⟩ := hxx j hjl
              obtain ⟨e1, -, -⟩ := Value.slice.inj ee
              subst e1
              obtain ⟨x0, x1, x2⟩ := hx j hjl
              obtain ⟨ah2, ch2, ee2, -, hyy⟩ := (HSL7.out.below hbj).open
              have hjh : j < hams.length := by have := HLEN.out; omega
              obtain ⟨b3, off3, e3, hb3, hy⟩ := hyy j hjh
              obtain ⟨e4, -, -⟩ := Value.slice.inj ee2
              rw [← e4] at e3
              obtain ⟨bh, oh, rfl⟩ : ∃ bh oh, ah = some ⟨bh, oh, none⟩ := ⟨_, _, e3⟩
              injection e3 with e3
              injection e3 with e5 e6
              subst e5 e6
              have y0 := hy j hjh
              have hjhI : (j : Int) < (hams.length : Int) := by omega
              have hgd : card.getD j ⟨0, 0, false⟩ = card[j] := by rw [List.getD_eq_getElem?_getD, List.getElem?_eq_getElem hjl]; rfl
              have hgh : hams.getD j 0 = hams[j] := by rw [List.getD_eq_getElem?_getD, List.getElem?_eq_getElem hjh]; rfl
              have HSUC := hid (colsL_succ k card hams j)
              rw [hgd, hgh] at HSUC
              generalize card[j] = x at *
              generalize hams[j] = ham at *
              have HCL := hid (colL.eq_1 k ham x)
              clear hxx hx ee hgd hgh hyy hy ee2 e4
              obtain ⟨S, hS⟩ : ∃ S, hd ++ flatC (colsL k card hams j) = S := ⟨_, rfl⟩
              have hSlen : S.length ≤ 442 := by
                rw [← hS, List.length_append, hdl]
                have : 11 * j ≤ 11 * 40 := Nat.mul_le_mul_left _ (by omega)
                omega
              rw [hS]
              have HSE := hid hS
              obtain ⟨nv, hnv⟩ : ∃ n, (if x.team = (k : Int) then x.pts else 0) = n := ⟨_, rfl⟩
              have hnb : 0 ≤ nv ∧ nv ≤ 8 := by rw [← hnv]; split <;> omega
              have HN := hid (fun W => number_any nv (by omega) W)
              have hql := itoa_len nv hnb.1
              rw [hnv] at HCL
              obtain ⟨q, hq⟩ : ∃ q, Lib.itoa nv = q := ⟨_, rfl⟩
              rw [hq] at HN HCL hql
              obtain ⟨S1, hS1⟩ : ∃ S1, S ++ [32] = S1 := ⟨_, rfl⟩
              obtain ⟨S2, hS2⟩ : ∃ S2, S1 ++ q = S2 := ⟨_, rfl⟩
              obtain ⟨S3, hS3⟩ : ∃ S3, S2 ++ [112] = S3 := ⟨_, rfl⟩
              have l1 : S1.length = S.length + 1 := by rw [← hS1]; simp
              have l2 : S2.length = S1.length + q.length := by rw [← hS2]; simp
              have k1 : (⟨S.toArray⟩ : ByteArray) ++ ⟨#[32]⟩ = ⟨S1.toArray⟩ := by rw [← hS1]; exact bapp S [32]
              have k2 : (⟨S1.toArray⟩ : ByteArray) ++ ⟨q.toArray⟩ = ⟨S2.toArray⟩ := by rw [← hS2]; exact bapp S1 q
              have k3 : (⟨S2.toArray⟩ : ByteArray) ++ ⟨#[112]⟩ = ⟨S3.toArray⟩ := by rw [← hS3]; exact bapp S2 [112]
              have f1 : (9223372036854775807 < S.length + 1) = False := by simp; omega
              have f2 : (9223372036854775807 < S1.length + q.length) = False := by simp; omega
              have f3 : (9223372036854775807 < S2.length + 1) = False := by simp; omega
              have HE := hid (show ∀ b : Bool, (x.pow && ham == (k : Int)) = b → hd ++ flatC (colsL k card hams (j + 1)) = if b then S3 else S2 by
                intro b hb
                rw [HSUC.out, flatC_snoc, HCL.out, hb, ← hS3, ← hS2, ← hS1, ← HSE.out]
                cases b <;> simp)
              obtain ⟨bt, hbt⟩ : ∃ b, (x.team == (k : Int)) = b := ⟨_, rfl⟩
              obtain ⟨bp, hbp⟩ : ∃ b, x.pow = b := ⟨_, rfl⟩
              obtain ⟨bm, hbm⟩ : ∃ b, (ham == (k : Int)) = b := ⟨_, rfl⟩
              have hnv2 : nv = if bt then x.pts else 0 := by rw [← hnv, ← hbt]; simp
              rw [hbp, hbm] at HE
              rw [hbp] at x2
              clear hnv hnb hq hS1 hS2 hS3 hS l1 l2 hql hSlen hSl hln
              cases bt <;> cases bp <;> cases bm
              all_goals
                simp only [if_true, if_false, Bool.false_eq_true] at hnv2
                subst hnv2
                go_wp2_with (go_at_call 52; refine (HN.out _).mono ?_; rintro e w2 ⟨rfl, hb2⟩; have z2 := bcs hb2 x2; have z0 := bcs hb2 y0)
                exact ⟨⟨j + 1, by omega, by go_num, by rw [HE.out _ rfl]; rfl, HBJ.out.trans (hb2.mono HBJ.out.size)⟩, by simp [intOf]; omega⟩
            · obtain rfl : j = card.length := by omega
              obtain ⟨S, hS⟩ : ∃ S, hd ++ flatC (colsL k card hams card.length) = S := ⟨_, rfl⟩
              have hSlen : S.length ≤ 442 := by
                rw [← hS, List.length_append, hdl]
                have : 11 * card.length ≤ 11 * 40 := Nat.mul_le_mul_left _ (by omega)
                omega
              rw [hS]
              have hptb := ptsOf_le k HP.out
              have HN := hid (fun W => number_any (ptsOf s k) (by omega) W)
              have hql := itoa_len (ptsOf s k) hptb.1
              have hpc := pts_cell k hk ((hbj.block _ (Array.getElem?_eq_some_iff.1 HS7.out).1).trans HS7.out)
              have hRL := rowL_ref k first con card hams s
              rw [HHD.out, hS] at hRL
              obtain ⟨q, hq⟩ : ∃ q, Lib.itoa (ptsOf s k) = q := ⟨_, rfl⟩
              rw [hq] at HN hRL hql
              obtain ⟨S1, hS1⟩ : ∃ S1, S ++ [32, 61, 32] = S1 := ⟨_, rfl⟩
              obtain ⟨S2, hS2⟩ : ∃ S2, S1 ++ q = S2 := ⟨_, rfl⟩
              obtain ⟨S3, hS3⟩ : ∃ S3, S2 ++ [32, 120] = S3 := ⟨_, rfl⟩
              have l1 : S1.length = S.length + 3 := by rw [← hS1]; simp
              have l2 : S2.length = S1.length + q.length := by rw [← hS2]; simp
              have l3 : S3.length = S2.length + 2 := by rw [← hS3]; simp
              have k1 : (⟨S.toArray⟩ : ByteArray) ++ ⟨#[32, 61, 32]⟩ = ⟨S1.toArray⟩ := by rw [← hS1]; exact bapp S [32, 61, 32]
              have k2 : (⟨S1.toArray⟩ : ByteArray) ++ ⟨q.toArray⟩ = ⟨S2.toArray⟩ := by rw [← hS2]; exact bapp S1 q
              have k3 : (⟨S2.toArray⟩ : ByteArray) ++ ⟨#[32, 120]⟩ = ⟨S3.toArray⟩ := by rw [← hS3]; exact bapp S2 [32, 120]
              have f1 : (9223372036854775807 < S.length + 3) = False := by simp; omega
              have f2 : (9223372036854775807 < S1.length + q.length) = False := by simp; omega
              have f3 : (9223372036854775807 < S2.length + 2) = False := by simp; omega
              obtain ⟨bc, hbc⟩ : ∃ b, (con == (k : Int)) = b := ⟨_, rfl⟩
              obtain ⟨S4, hS4⟩ : ∃ S4, (if bc then S3 else S2) = S4 := ⟨_, rfl⟩
              have hRL2 : rowL k first con card hams s = S4 ++ [10] := by
                rw [hRL, ← hS4, ← hbc, ← hS3, ← hS2, ← hS1]
                by_cases hck : con = (k : Int) <;> simp [hck]
              have l4 : S4.length ≤ 2000 := by rw [← hS4]; split <;> omega
              have hFl := HFL.out
              obtain ⟨F1, hF1⟩ : ∃ F1, F ++ S4 = F1 := ⟨_, rfl⟩
              have k4 : (⟨F.toArray⟩ : ByteArray) ++ ⟨S4.toArray⟩ = ⟨F1.toArray⟩ := by rw [← hF1]; exact bapp F S4
              have l5 : F1.length = F.length + S4.length := by rw [← hF1]; simp
              have f4 : (9223372036854775807 < F.length + S4.length) = False := by simp; omega
              have f5 : (9223372036854775807 < F1.length + 1) = False := by simp; omega
              obtain ⟨F2, hF2⟩ : ∃ F2, F1 ++ [10] = F2 := ⟨_, rfl⟩
              have k5 : (⟨F1.toArray⟩ : ByteArray) ++ ⟨#[10]⟩ = ⟨F2.toArray⟩ := by rw [← hF2]; exact bapp F1 [10]
              have HE := hid (show (List.range (k + 1)).flatMap (fun (t : Nat) => rowL t first con card hams s) = F2 by
                rw [List.range_succ, List.flatMap_append, HF.out]
                simp only [List.flatMap_cons, List.flatMap_nil, List.append_nil]
                rw [hRL2, ← hF2, ← hF1, List.append_assoc])
              clear hRL hRL2 hq hS1 hS2 hS3 hS hF1 hF2 l1 l2 l3 l4 l5 hql hSlen hSl hptb hFl
              cases bc
              all_goals
                simp only [if_true, if_false, Bool.false_eq_true] at hS4
                subst hS4
                go_wp2_with (go_at_call 52; refine (HN.out _).mono ?_; rintro e w2 ⟨rfl, hb2⟩)
                exact ⟨⟨k + 1, by omega, by go_num, by rw [HE.out], HBJ.out.trans (hb2.mono HBJ.out.size)⟩, by simp [intOf]; omega⟩
      · obtain rfl : k = 2 := by omega
        have hbw : Below w.heap.size w wo := HB7.out.trans (hb.mono HB7.out.size)
        go_wp2_with fail
        refine bodyPost_ret (v := .tuple #[.string ⟨(rowL 0 first con card hams s ++ rowL 1 first con card hams s).toArray⟩, .int .i64 0]) (by simp [results, Tryd.results16, go_sem, List.range_succ]) rfl ⟨by rw [HR.out]; rfl, hbw⟩
  · have hcb : (code != 0) = true := by simp [hc]
    rw [if_neg hc] at HR
    clear hc
    go_wp2_with fail
    exact bodyPost_ret (v := .tuple #[.string ⟨#[]⟩, .int .i64 code]) (by simp [results, Tryd.results16, go_sem]) rfl ⟨by rw [HR.out], HB5.out.alloc HB5.out.size _⟩
end Go.Proofs.YtdbfnonpndlejaaDoor
