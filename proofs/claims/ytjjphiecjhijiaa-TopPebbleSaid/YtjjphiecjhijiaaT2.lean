/- besomtop.TopPebble: the walk. -/
import Derived.Test.YtjjphiecjhijiaaT1
namespace Go.Proofs.Ytjjphiecjhijiaa
open Go.RowKit

set_option maxRecDepth 100000 in
set_option maxHeartbeats 4000000 in
theorem top_any (tm L c : Int) (s : Nat) (hs : s < 256) (w : World) : Calls Try.prog 3 #[.int .i64 tm, .int .i64 L, .int .i64 c, .int .u8 (s : Int)] w fun e w' => e = .returned (.bool true) ∧ Below w.heap.size w w' := by
  have H1 := hid (draws_any tm L w)
  have HA := hid awake_any
  go_enter Try.func3, Try.ntmps3
  go_wp2_with fail
  refine H1.out.mono ?_
  rintro e w1 ⟨⟨v, f, ds, rfl, hsd, hcase⟩, hb1⟩
  clear H1
  have HB1 := hid hb1
  by_cases hf : f = 0 ∧ 1 ≤ c ∧ c ≤ 8
  · obtain ⟨rfl, hc1, hc8⟩ := hf
    obtain ⟨hl1, hl8, ht2, ht16, hg, hdl⟩ : 1 ≤ L ∧ L ≤ 8 ∧ 2 ≤ tm ∧ tm ≤ 16 ∧ GoodD (min L.toNat (gamesN tm.toNat)) ds ∧ ds.length ≤ 128 := by
      rcases hcase with ⟨h, -⟩ | ⟨-, h⟩
      · cases h
      · exact h
    go_wp2_with fail
    obtain ⟨n, hn⟩ : ∃ n : Nat, 1 + (s : Int) % 4 = n := ⟨1 + s % 4, by omega⟩
    rw [hn]
    have hn1 : 1 ≤ n := by omega
    have hn4 : n ≤ 4 := by omega
    obtain ⟨C, rfl⟩ := Int.eq_ofNat_of_zero_le (show 0 ≤ c by omega)
    obtain ⟨nc, hnc⟩ : ∃ nc, n * C = nc := ⟨_, rfl⟩
    have hnc32 : nc ≤ 32 := by rw [← hnc]; exact Nat.mul_le_mul hn4 (show C ≤ 8 by omega)
    have hw3 : IntKind.i64.wrap ((n : Int) * (C : Int)) = (nc : Int) := by rw [show (n : Int) * (C : Int) = (nc : Int) by rw [← hnc]; simp, IntWalk.i64_in _ (by omega)]
    obtain ⟨m, hm⟩ : ∃ m, min L.toNat (gamesN tm.toNat) = m := ⟨_, rfl⟩
    rw [hm] at hg
    have hm8 : m ≤ 8 := by omega
    clear hm hcase
    have HG := hid hg
    obtain ⟨base, cs, hown, hlens⟩ := hsd
    obtain ⟨ad, capv, rfl, hcapv⟩ := own_cap hown
    have HOWN := hid (And.intro hown hlens)
    clear hg hown hlens hb1
    go_loopw [12, 13, 14] (fun x y z wr => ∃ i : Nat, i ≤ ds.length ∧ y = .int .i64 (firstP n C ds i) ∧ z = .int .i64 i ∧ wr.ownsRow w1.heap.size 30 3 x (jobsP n ds i).length ((jobsP n ds i).flatMap Mach.cells) ∧ Below w1.heap.size w1 wr) (fun _ _ z _ => ds.length - (intOf z).toNat)
    case atStart => exact ⟨0, Nat.zero_le _, rfl, rfl, World.ownsRow_nil _ _ _ _, Below.refl _ _⟩
    case round =>
      obtain ⟨i, hi, rfl, rfl, hrow, hb⟩ := hrel
      have HROW := hid hrow
      have HB := hid hb
      clear hrow hb
      by_cases hlt : i < ds.length
      · have hltI : (i : Int) < (ds.length : Int) := by omega
        have hi0 : (0 : Int) ≤ (i : Int) := by omega
        obtain ⟨g, capg, e, -, -⟩ := HOWN.out.1.form (by omega)
        obtain ⟨rfl, -, rfl⟩ := Value.slice.inj e
        clear e
        obtain ⟨ad, capd, hcs⟩ := HOWN.out.2.get i hlt
        obtain ⟨d, hd⟩ : ∃ d, ds[i] = d := ⟨_, rfl⟩
        rw [hd] at hcs
        have hgD : ds.getD i 0 = d := by rw [List.getD_eq_getElem?_getD, List.getElem?_eq_getElem hlt]; exact hd
        have hd8 : d ≤ 8 := by have := HG.out.1 d (by rw [← hd]; exact List.getElem_mem _); omega
        have hx1 : w1.cell? ⟨g, i, none⟩ = some (.slice ad d capd) := by
          rw [HOWN.out.1.cellAt i (by omega)]; exact hcs
        have HX1 := hid (fun W (hb : Below w1.heap.size w1 W) => bcs hb hx1)
        clear hcs hx1 hd
        go_wp2_with fail
        obtain ⟨b1, hb1⟩ : ∃ b1, i * n = b1 := ⟨_, rfl⟩
        obtain ⟨b2, hb2⟩ : ∃ b2, (i + 1) * n = b2 := ⟨_, rfl⟩
        have hb1' : b1 ≤ 512 := by rw [← hb1]; exact Nat.mul_le_mul (show i ≤ 128 by omega) hn4
        have hb2' : b2 ≤ 516 := by rw [← hb2]; exact Nat.mul_le_mul (show i + 1 ≤ 129 by omega) hn4
        have hw1 : IntKind.i64.wrap ((i : Int) * (n : Int)) = (b1 : Int) := by rw [show (i : Int) * (n : Int) = (b1 : Int) by rw [← hb1]; simp, IntWalk.i64_in _ (by omega)]
        have hw2 : IntKind.i64.wrap (((i : Int) + 1) * (n : Int)) = (b2 : Int) := by rw [show ((i : Int) + 1) * (n : Int) = (b2 : Int) by rw [← hb2]; simp, IntWalk.i64_in _ (by omega)]
        have HDJ := hid (fun k => drawJ_succ n i k)
        rw [hb1, hb2] at HDJ
        have hjl := jobsP_len (n := n) HG.out hm8 i hi
        obtain ⟨jp, hjp⟩ : ∃ jp, jobsP n ds i = jp := ⟨_, rfl⟩
        rw [hjp] at HROW hjl
        have HJP := hid (show jobsP n ds (i + 1) = jp ++ drawJ n i d by rw [← hjp, ← hgD]; rfl)
        clear hjp
        obtain ⟨fp, hfp⟩ : ∃ fp, firstP n C ds i = fp := ⟨_, rfl⟩
        have HFP := hid (firstP_succ (n := n) (c := C) HG.out hlt)
        have HF1 := hid (show fp < 0 → fp = -1 from fun h => by
          rw [← hfp] at h ⊢
          unfold firstP at h ⊢
          split
          · next h2 => rw [if_pos h2] at h; omega
          · rfl)
        rw [hfp, hgD, hnc] at HFP
        rw [hfp]
        clear hfp hgD
        go_loopw [12, 15] (fun x z wq => ∃ k : Nat, k ≤ d ∧ z = .int .i64 k ∧ wq.ownsRow w1.heap.size 30 3 x (jp ++ drawJ n i k).length ((jp ++ drawJ n i k).flatMap Mach.cells) ∧ Below w1.heap.size w1 wq) (fun _ z _ => d - (intOf z).toNat)
        case atStart => exact ⟨0, Nat.zero_le _, rfl, by simpa [drawJ] using HROW.out, HB.out⟩
        case round =>
          obtain ⟨k, hk, rfl, hrow, hb⟩ := hrel
          have hx1 := HX1.out _ hb
          have HB2 := hid hb
          by_cases hkd : k < d
          · have hkdI : (k : Int) < (d : Int) := by omega
            obtain ⟨i0, hinf, hz0, hz1, hz2⟩ := info_parts info30
            have hl2 : (jp ++ drawJ n i k).length ≤ 2000 := by simp [drawJ]; omega
            have hbs := hb.size
            have HDK := hid (show (jp ++ drawJ n i (k + 1)) = (jp ++ drawJ n i k) ++ [⟨(k : Int), (b1 : Int), (b2 : Int)⟩] by rw [HDJ.out k, List.append_assoc])
            generalize jp ++ drawJ n i k = jq at *
            clear hb
            go_wp2_with (at_builtin; refine wpList_append_own _ rfl _ _ 27 rfl w1.heap.size 30 i0 (.agg #[.int .i64 0, .int .i64 0, .int .i64 0]) 3 24 Try.underlying27 hinf hz0 hz1 hz2 rfl (by decide) _ _ _ rfl (hrow.alloc _) ⟨wr.heap.size, 0, none⟩ 1 1 [.int .i64 (k : Int), .int .i64 (b1 : Int), .int .i64 (b2 : Int)] rfl rfl ((made_job wr w1.heap.size ⟨(k : Int), (b1 : Int), (b2 : Int)⟩ hbs).cells rfl) (by intro u hu; simp at hu; rcases hu with rfl | rfl | rfl <;> rfl) (by unfold maxLen; omega) (by omega) (by simp; omega) ?_; intro v' w3 hown3 hgrow3 _)
            refine ⟨⟨k + 1, hkd, by go_num, ?_, ?_⟩, by simp only [intOf]; omega⟩
            · rw [HDK.out, List.flatMap_append, List.length_append]
              simpa [Mach.cells] using hown3
            · exact (HB2.out.alloc hbs _).grown hgrow3 (by simp; omega) (fun q e => (hrow.lt q e).1)
          · have hkdI : ¬ (k : Int) < (d : Int) := by omega
            obtain rfl : k = d := by omega
            have HRW := hid hrow
            clear hrow hb
            by_cases hfn : fp < 0
            · rw [if_pos hfn] at HFP
              by_cases hdc : nc < k
              · have hdcI : (nc : Int) < (k : Int) := by omega
                rw [if_pos hdc] at HFP
                go_wp2_with fail
                exact ⟨⟨i + 1, hlt, by rw [HFP.out], by go_num, by rw [HJP.out]; exact HRW.out, HB2.out⟩, by simp only [intOf]; omega⟩
              · have hdcI : ¬ (nc : Int) < (k : Int) := by omega
                rw [if_neg hdc] at HFP
                go_wp2_with fail
                exact ⟨⟨i + 1, hlt, by rw [HFP.out, HF1.out hfn], by go_num, by rw [HJP.out]; exact HRW.out, HB2.out⟩, by simp only [intOf]; omega⟩
            · rw [if_neg hfn] at HFP
              go_wp2_with fail
              exact ⟨⟨i + 1, hlt, by rw [HFP.out], by go_num, by rw [HJP.out]; exact HRW.out, HB2.out⟩, by simp only [intOf]; omega⟩
      · have hltI : ¬ (i : Int) < (ds.length : Int) := by omega
        obtain rfl : i = ds.length := by omega
        obtain ⟨ad2, cap2, rfl, hcap2⟩ := own_cap HROW.out
        have hjl := jobsP_len (n := n) HG.out hm8 ds.length (Nat.le_refl _)
        have hjb := jobs_b (n := n) (ds := ds) (k := ds.length) hdl hn4
        have HSM := hid (SlM_of_own HROW.out (by omega))
        have HJG := hid (jobs_good hn1 HG.out hm8)
        have HJD := hid (jobsP_draw n ds ds.length)
        have HJ0 := hid (jobs_from0 (n := n) (ds := ds) hn1)
        have HJF := hid (jobs_from (n := n) (c := C) hn1 HG.out)
        obtain ⟨l, hl⟩ : ∃ l, jobsP n ds ds.length = l := ⟨_, rfl⟩
        rw [hl] at HSM HJG HJD HJ0 HJF hjl hjb HROW ⊢
        have HCK := hid (checkJobs_any _ l wr HSM.out hjb)
        have HJB := hid hjb
        clear hl hjb
        have hlen1 : (ds.length * n : Nat) ≤ 512 := Nat.mul_le_mul hdl hn4
        obtain ⟨b3, hb3⟩ : ∃ b3, ds.length * n = b3 := ⟨_, rfl⟩
        rw [hb3] at hlen1 HJG
        have hw4 : IntKind.i64.wrap ((ds.length : Int) * (n : Int)) = (b3 : Int) := by rw [show (ds.length : Int) * (n : Int) = (b3 : Int) by rw [← hb3]; simp, IntWalk.i64_in _ (by omega)]
        have HBW := hid (HB1.out.trans (HB.out.mono HB1.out.size))
        clear hb3
        cases hok : jobsOk l with
        | false =>
          rw [hok] at HCK
          by_cases h2 : l.length ≤ 200
          · have h2I : ¬ (200 : Int) < (l.length : Int) := by omega
            have hb3g : ¬ b3 ≤ 500 := fun h => by have := HJG.out h h2; rw [this] at hok; cases hok
            have hb3I : (500 : Int) < (b3 : Int) := by omega
            go_wp2_with fail
            refine HCK.out.mono ?_
            rintro e w3 ⟨rfl, hb3⟩
            have HBX := hid (HBW.out.trans (hb3.mono HBW.out.size))
            clear hb3 HCK
            go_wp2_with fail
            refine (HA.out _).mono ?_
            rintro e w4 ⟨rfl, hb4⟩
            have HBY := hid (HBX.out.trans (hb4.mono HBX.out.size))
            clear hb4
            go_wp2_with fail
            go_ret
            exact ⟨rfl, HBY.out⟩
          · have h2I : (200 : Int) < (l.length : Int) := by omega
            go_wp2_with fail
            refine HCK.out.mono ?_
            rintro e w3 ⟨rfl, hb3⟩
            have HBX := hid (HBW.out.trans (hb3.mono HBW.out.size))
            clear hb3 HCK
            go_wp2_with fail
            refine (HA.out _).mono ?_
            rintro e w4 ⟨rfl, hb4⟩
            have HBY := hid (HBX.out.trans (hb4.mono HBX.out.size))
            clear hb4
            go_wp2_with fail
            go_ret
            exact ⟨rfl, HBY.out⟩
        | true =>
          rw [hok] at HCK
          have HASK := hid (show askedE l (C : Int) = 0 by
            have h1 : inB (C : Int) 1 8 = true := by simp only [inB, Bool.and_eq_true, decide_eq_true_eq]; omega
            unfold askedE
            rw [hok, h1]
            rfl)
          have HPR := hid (show planR l (C : Int) = (match planF l C with | some o => (o, 0) | none => ([], 7)) by
            unfold planR
            rw [if_pos HASK.out]
            rfl)
          by_cases hbad : 0 < ds.length ∧ n * C < ds.getD 0 0
          · have HF := hid (show firstP n C ds ds.length = 0 from if_pos hbad)
            have hfb : n * C < fromN l 0 := by rw [HJ0.out hbad.1]; exact hbad.2
            have HPL := hid (show planR l (C : Int) = ([], 7) by rw [HPR.out, planF_bad hn1 (by omega) (by omega) HJD.out hfb])
            have HCB := hid (fun (r : Int × Int × Int) (h : CrowdIs l C r) => crowd_bad hn1 (by omega) HJD.out hfb h)
            rw [HF.out]
            clear hbad hfb HPR HJ0 HJF hok hnc
            go_wp2_with fail
            refine HCK.out.mono ?_
            rintro e w3 ⟨rfl, hb3⟩
            have HP := hid (plan_any _ l (C : Int) w3 (HSM.out.below hb3) HJB.out)
            have HBX := hid (HBW.out.trans (hb3.mono HBW.out.size))
            have HSM3 := hid (HSM.out.below hb3)
            clear hb3 HCK
            go_wp2_with fail
            refine HP.out.mono ?_
            rintro e w4 ⟨⟨r, rfl, hr⟩, hb4⟩
            rw [HPL.out] at hr ⊢
            obtain ⟨ar, cr, rfl, hrl, -⟩ := hr.open
            have HBY := hid (HBX.out.trans (hb4.mono HBX.out.size))
            have HCD := hid (crowd_any _ l (C : Int) w4 (HSM3.out.below hb4) HJB.out)
            clear hb4 hr HP
            go_wp2_with fail
            refine HCD.out.mono ?_
            rintro e w5 ⟨⟨r2, rfl, hr2⟩, hb5⟩
            obtain rfl : r2 = (0, (n : Int), 0) := by
              rcases hr2 with ⟨-, h⟩ | ⟨h, -⟩
              · exact HCB.out r2 h
              · exact absurd HASK.out h
            have HBZ := hid (HBY.out.trans (hb5.mono HBY.out.size))
            clear hb5 hr2 HCD
            go_wp2_with fail
            refine (HA.out _).mono ?_
            rintro e w6 ⟨rfl, hb6⟩
            have HBV := hid (HBZ.out.trans (hb6.mono HBZ.out.size))
            clear hb6
            go_wp2_with fail
            go_ret
            exact ⟨rfl, HBV.out⟩
          · have HF := hid (show firstP n C ds ds.length = -1 from if_neg hbad)
            have hfr : ∀ i : Nat, fromN l ((i * n : Nat) : Int) ≤ n * C := by
              by_cases h0 : 0 < ds.length
              · exact HJF.out (fun h => hbad ⟨h0, h⟩)
              · refine HJF.out (fun h => ?_)
                obtain rfl : ds = [] := List.length_eq_zero_iff.1 (by omega)
                simp at h
            obtain ⟨o, ho1, ho2⟩ := planF_ok hn1 HJD.out hfr (jobs_start hok)
            have HPL := hid (show planR l (C : Int) = (o, 0) by rw [HPR.out, ho1])
            have HCB := hid (fun (r : Int × Int × Int) (h : CrowdIs l C r) => crowd_ok hn1 HJD.out hfr h)
            have HO := hid ho2
            rw [HF.out]
            clear hbad hfr HPR HJ0 HJF hok ho1 ho2 hnc
            go_wp2_with fail
            refine HCK.out.mono ?_
            rintro e w3 ⟨rfl, hb3⟩
            have HP := hid (plan_any _ l (C : Int) w3 (HSM.out.below hb3) HJB.out)
            have HBX := hid (HBW.out.trans (hb3.mono HBW.out.size))
            have HSM3 := hid (HSM.out.below hb3)
            clear hb3 HCK
            go_wp2_with fail
            refine HP.out.mono ?_
            rintro e w4 ⟨⟨r, rfl, hr⟩, hb4⟩
            rw [HPL.out] at hr ⊢
            obtain ⟨ar, cr, rfl, hrl, -⟩ := hr.open
            have HBY := hid (HBX.out.trans (hb4.mono HBX.out.size))
            have HCD := hid (crowd_any _ l (C : Int) w4 (HSM3.out.below hb4) HJB.out)
            have hol := HO.out
            clear hb4 hr HP
            go_wp2_with fail
            refine HCD.out.mono ?_
            rintro e w5 ⟨⟨r2, rfl, hr2⟩, hb5⟩
            obtain rfl : r2 = (0, 0, 7) := by
              rcases hr2 with ⟨-, h⟩ | ⟨h, -⟩
              · exact HCB.out r2 h
              · exact absurd HASK.out h
            have HBZ := hid (HBY.out.trans (hb5.mono HBY.out.size))
            clear hb5 hr2 HCD
            go_wp2_with fail
            refine (HA.out _).mono ?_
            rintro e w6 ⟨rfl, hb6⟩
            have HBV := hid (HBZ.out.trans (hb6.mono HBZ.out.size))
            clear hb6
            go_wp2_with fail
            go_ret
            exact ⟨rfl, HBV.out⟩
  · clear hsd hb1
    rcases hcase with ⟨rfl, rfl⟩ | ⟨rfl, -⟩
    · clear hf
      go_wp2_with fail
      refine (HA.out _).mono ?_
      rintro e w2 ⟨rfl, hb2⟩
      have HB2 := hid (HB1.out.trans (hb2.mono HB1.out.size))
      clear hb2
      go_wp2_with fail
      go_ret
      exact ⟨rfl, HB2.out⟩
    · have hc : c < 1 ∨ 8 < c := by omega
      clear hf
      rcases hc with hc | hc
      · have hc' : c < 1 := hc
        go_wp2_with fail
        refine (HA.out _).mono ?_
        rintro e w2 ⟨rfl, hb2⟩
        have HB2 := hid (HB1.out.trans (hb2.mono HB1.out.size))
        clear hb2
        go_wp2_with fail
        go_ret
        exact ⟨rfl, HB2.out⟩
      · have hc' : ¬ c < 1 := by omega
        go_wp2_with fail
        refine (HA.out _).mono ?_
        rintro e w2 ⟨rfl, hb2⟩
        have HB2 := hid (HB1.out.trans (hb2.mono HB1.out.size))
        clear hb2
        go_wp2_with fail
        go_ret
        exact ⟨rfl, HB2.out⟩
end Go.Proofs.Ytjjphiecjhijiaa
