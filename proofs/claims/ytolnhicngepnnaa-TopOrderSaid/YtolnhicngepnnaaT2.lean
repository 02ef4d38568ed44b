/- TopOrder walked: a valid position. -/
import Derived.Test.YtolnhicngepnnaaT1
import Derived.Deep.RegionHeld3
namespace Go.Proofs.Ytolnhicngepnnaa
open Go.RowKit

set_option maxRecDepth 100000 in
set_option maxHeartbeats 8000000 in
theorem order_ok (a : Option Addr) (cap : Nat) (l : List StoneD) (off per : Int) (ev : Value) (es : List Int) (w : World) (hs : SlS w (.slice a l.length cap) l) (haw : ∀ ad, a = some ad → ad.block < w.heap.size) (hcap : l.length ≤ cap) (he : SlE w ev es) (hck : checkR l = true) (h100 : es.length ≤ 100) :
    Calls Try.prog 3 #[.slice a l.length cap, .agg #[.int .i64 off, .int .i64 per], ev] w fun e w' => e = .returned (.bool true) ∧ Below w.heap.size w w' := by
  obtain ⟨h16, hok⟩ := checkR_ok hck
  have HSO := hid (fun W => sound_any W)
  have HS := hid hs
  obtain ⟨ea, ec, rfl, hen, hec⟩ := he.open
  have HEC := hid hec
  have HSC := hid (show ∃ a' cap', Value.slice a l.length cap = .slice a' l.length cap' ∧ l.length ≤ 140737488351232 ∧ ∀ k, k < l.length → ∃ b off, a' = some ⟨b, off, none⟩ ∧ b < w.heap.size ∧ ∀ j (h : j < l.length), w.cell? ⟨b, off + j * 4, none⟩ = some (.int .i64 l[j].team) ∧ w.cell? ⟨b, off + j * 4 + 1, none⟩ = some (.int .i64 l[j].n) ∧ w.cell? ⟨b, off + j * 4 + 2, none⟩ = some (.int .i64 l[j].x) ∧ w.cell? ⟨b, off + j * 4 + 3, none⟩ = some (.int .i64 l[j].y) from hs.open)
  have HN := hid (fun W (hb : Below w.heap.size w W) => sheetNearest_ok a cap l W (hs.below hb) (fun ad h => Nat.lt_of_lt_of_le (haw ad h) hb.size) hcap hck)
  have HEX := hid (show ∀ W, Below w.heap.size w W → Calls Try.prog 6 #[.slice a l.length cap] W fun e w' => (∃ v, e = .returned (.tuple #[v, .int .i64 0]) ∧ w'.ownsRow W.heap.size 38 3 v l.length ((exTo l l.length).flatMap Mach.cells)) ∧ Below W.heap.size W w' from fun W hb => (exact_any _ l W (hs.below hb)).mono fun e w' h => by
    obtain ⟨h1, h2⟩ := h
    rw [if_pos (mCheck_of hck)] at h1
    exact ⟨h1, h2⟩)
  have HCO := hid (fun W (hb : Below w.heap.size w W) => count_any a cap l W (hs.below hb) (fun ad h => Nat.lt_of_lt_of_le (haw ad h) hb.size) hcap)
  have HCP := hid (count_plain hck)
  have HGE := hid (fun rs h hl i k => order_ge (l := l) (rs := rs) (i := i) (k := k) hck h hl)
  have HNM := hid (fun i h => near_mem (l := l) (i := i) h)
  have hnl : (nearR l).length ≤ 16 := by
    rw [(nearR_perm l).length_eq]
    have : (houseTo l l.length).length ≤ (List.range l.length).length := List.length_filter_le _ _
    simp at this; omega
  have HAL := hid (show ∀ x ∈ nearR l, x < l.length from fun x hx => (houseTo_mem ((nearR_perm l).mem_iff.1 hx)).1)
  obtain ⟨W1, hW1⟩ : ∃ W1, w.alloc (.cells #[.int .i64 off, .int .i64 per] 25) = W1 := ⟨_, rfl⟩
  have hz : W1.heap.size = w.heap.size + 1 := by rw [← hW1]; simp
  have HB1 := hid (show Below w.heap.size w W1 by rw [← hW1]; exact (Below.refl _ w).alloc (Nat.le_refl _) _)
  have HT := hid (show ∀ W, Below W1.heap.size W1 W → W.heap[w.heap.size]? = some (.cells #[.int .i64 off, .int .i64 per] 25 (0, 0)) from fun W hb => (hb.block _ (by omega)).trans (by rw [← hW1]; exact heap_alloc_new w _))
  have HW1 := hid hW1
  have h20I : ¬ (20 : Int) < (l.length : Int) := by omega
  have h100I : ¬ (100 : Int) < (es.length : Int) := by omega
  clear haw hs he hW1 hec hok hck
  obtain ⟨nr, hnr⟩ : ∃ nr, nearR l = nr := ⟨_, rfl⟩
  rw [hnr] at HN HCP HGE HNM hnl HAL
  have HNR := hid hnr
  clear hnr
  go_enter Try.func3, Try.ntmps3
  go_wp2_with fail
  rw [HW1.out]
  refine (HN.out _ HB1.out).mono ?_
  rintro e w2 ⟨⟨nv, NB, rfl, hNB, hnown⟩, hb2⟩
  have HB2 := hid hb2
  have HNO := hid hnown
  obtain ⟨nad, ncap, rfl, hncap⟩ := own_cap hnown
  clear hb2 hnown HW1 HN
  go_wp2_with fail
  refine (HEX.out _ (btrans HB1.out (by omega) HB2.out)).mono ?_
  rintro e w3 ⟨⟨xv, rfl, hxown⟩, hb3⟩
  have HB3 := hid (HB2.out.trans (hb3.mono HB2.out.size))
  have HXO := hid hxown
  have HNO3 := hid (own_belowR HNO.out hb3)
  obtain ⟨xad, xcap, rfl, hxcap⟩ := own_cap hxown
  have hxb := fun j h => (HXO.out.lt j h)
  clear hxown HB2 HEX HNO hb3
  have HIX := hid (indices_ok NB _ nr l.length w3 (by omega) (by omega) HNO3.out HAL.out)
  go_wp2_with fail
  refine HIX.out.mono ?_
  rintro e w4 ⟨rfl, rfl⟩
  clear HIX
  go_wp2_with fail
  have HX4 := hid (show ∀ k, k < l.length → ∃ g, xad = some ⟨g, 0, none⟩ ∧ g < w4.heap.size ∧ w4.cell? ⟨g, k * 3, none⟩ = some (.int .i64 (k : Int)) ∧ w4.cell? ⟨g, k * 3 + 1, none⟩ = some (.int .i64 (rdOf k (stAt l k)).power) ∧ w4.cell? ⟨g, k * 3 + 2, none⟩ = some (.int .i64 (rdOf k (stAt l k)).start) from fun k hk => by
    obtain ⟨g, cap2, e, hgl, -⟩ := HXO.out.form (by omega)
    obtain ⟨rfl, -, -⟩ := Value.slice.inj e
    have key : ∀ c (hc3 : c < 3) u, (rdOf k (stAt l k)).cells[c]? = some u → w4.cell? ⟨g, k * 3 + c, none⟩ = some u := by
      intro c hc3 u hu
      have h1 := mach_cells_get (exTo l l.length) k (by rw [exTo_len]; exact hk) c hc3
      have h2 : (exTo l l.length)[k]'(by rw [exTo_len]; exact hk) = rdOf k (stAt l k) := by simp [exTo]
      have h3 : ((exTo l l.length).flatMap Mach.cells)[k * 3 + c]? = some u := by
        rw [h1, ← hu, h2]
        exact (List.getElem?_eq_getElem _).symm
      rw [HXO.out.cellAt (k * 3 + c) (by omega)]
      exact h3
    exact ⟨g, rfl, (HXO.out.lt g rfl).2, key 0 (by omega) _ rfl, key 1 (by omega) _ rfl, key 2 (by omega) _ rfl⟩)
  have HTW := hid (show ∀ W, Below w4.heap.size w4 W → W.cell? ⟨w.heap.size, 0, none⟩ = some (.int .i64 off) ∧ W.cell? ⟨w.heap.size, 1, none⟩ = some (.int .i64 per) from fun W hb => by
    have h1 := HT.out _ (HB3.out.trans (hb.mono HB3.out.size))
    exact ⟨by simp [World.cell?, h1], by simp [World.cell?, h1]⟩)
  have HBW := hid (HB1.out.trans (HB3.out.mono HB1.out.size))
  have hw4 : w.heap.size ≤ w4.heap.size := HBW.out.size
  clear HT HXO
  go_loopw [11, 69] (fun x z wq => ∃ k : Nat, k ≤ l.length ∧ z = .int .i64 k ∧ ∃ rs : List Mach, rs.length = k ∧ ShownOk l rs ∧ wq.ownsRow w4.heap.size 38 3 x rs.length (rs.flatMap Mach.cells) ∧ Below w4.heap.size w4 wq) (fun _ z _ => l.length - (intOf z).toNat)
  case atStart => exact ⟨0, Nat.zero_le _, rfl, [], rfl, (fun j hj => absurd hj (by simp)), World.ownsRow_nil _ _ _ _, Below.refl _ _⟩
  case round =>
    obtain ⟨k, hk, rfl, rs, hrl, hsh, hrow, hb⟩ := hrel
    have HB := hid hb
    have HSH := hid hsh
    have HROW := hid hrow
    have hbs := hb.size
    clear hb hsh hrow
    by_cases hlt : k < l.length
    · have hltI : (k : Int) < (l.length : Int) := by omega
      obtain ⟨g, rfl, hgl, x0, x1, x2⟩ := HX4.out k hlt
      have y0 := (HB.out.cell (p := ⟨g, k * 3, none⟩) hgl).trans x0
      have y1 := (HB.out.cell (p := ⟨g, k * 3 + 1, none⟩) hgl).trans x1
      have y2 := (HB.out.cell (p := ⟨g, k * 3 + 2, none⟩) hgl).trans x2
      clear x0 x1 x2
      obtain ⟨lo, hlo⟩ : ∃ lo, (rdOf k (stAt l k)).power = lo := ⟨_, rfl⟩
      obtain ⟨hi, hhi⟩ : ∃ hi, (rdOf k (stAt l k)).start = hi := ⟨_, rfl⟩
      rw [hlo] at y1
      rw [hhi] at y2
      have HLH := hid (And.intro hlo hhi)
      clear hlo hhi
      obtain ⟨W5, hW5⟩ : ∃ W5, wr.alloc (.cells #[.int .i64 (k : Int), .int .i64 lo, .int .i64 hi] 38) = W5 := ⟨_, rfl⟩
      have hz5 : W5.heap.size = wr.heap.size + 1 := by rw [← hW5]; simp
      have HB5 := hid (show Below wr.heap.size wr W5 by rw [← hW5]; exact (Below.refl _ _).alloc (Nat.le_refl _) _)
      have HN5 := hid (show ∀ W, Below W5.heap.size W5 W → W.cell? ⟨wr.heap.size, 1, none⟩ = some (.int .i64 lo) ∧ W.cell? ⟨wr.heap.size, 2, none⟩ = some (.int .i64 hi) from fun W hb => by
        have h1 := (hb.block wr.heap.size (by omega)).trans (show W5.heap[wr.heap.size]? = some (.cells #[.int .i64 (k : Int), .int .i64 lo, .int .i64 hi] 38 (0, 0)) by rw [← hW5]; exact heap_alloc_new wr _)
        exact ⟨by simp [World.cell?, h1], by simp [World.cell?, h1]⟩)
      have HW5 := hid hW5
      have HB45 := hid (HB.out.trans (HB5.out.mono hbs))
      clear hW5
      have hx5 := (HN5.out W5 (Below.refl _ _)).1
      go_upto_region 14 with fail
      rw [HW5.out]
      clear y0 y1 y2
      by_cases hel : 0 < es.length
      case neg =>
        have HB6 := hid (Below.refl W5.heap.size W5)
        have hEl : ¬ (0 : Int) < (es.length : Int) := by omega
        clear hel
        obtain ⟨c0, c1⟩ := HTW.out _ HB45.out
        go_wp2_with fail
        all_goals
          refine (read_cases _ _ _ _ _).mono ?_
          rintro e w7 ⟨he, hb7⟩
          have HB47 := hid (HB45.out.trans ((HB6.out.trans (hb7.mono HB6.out.size)).mono (by have := HB45.out.size; omega)))
          have HB7 := hid (HB6.out.trans (hb7.mono HB6.out.size))
          have hx7 := (HN5.out w7 HB7.out).1
          have hy7 := (HN5.out w7 HB7.out).2
          have hlt7 : wr.heap.size < w7.heap.size := by have := HB7.out.size; omega
          have hne7 : wr.heap.size ≠ w7.heap.size := by omega
          clear hb7 c0 c1 hx5
          rcases he with ⟨ylo, yhi, rfl, hrr⟩ | rfl
          case inr =>
            go_wp2_with fail
            refine (HSO.out _).mono ?_
            rintro e w9 ⟨rfl, hb9⟩
            have HB9 := hid ((HB47.out.alloc (by have := HB47.out.size; omega) (.cells #[.int .i64 0, .int .i64 0, .int .i64 0] 38)).trans (hb9.mono (by have := HB47.out.size; simp <;> omega)))
            clear hb9
            go_wp2_with fail
            go_ret
            exact ⟨rfl, HBW.out.trans (HB9.out.mono hw4)⟩
          case inl =>
            have HRR := hid hrr
            clear hrr
            by_cases hlow : lo < ylo
            · go_wp2_with fail
              refine (HSO.out _).mono ?_
              rintro e w9 ⟨rfl, hb9⟩
              have HB9 := hid ((HB47.out.alloc (by have := HB47.out.size; omega) (.cells #[.int .i64 (k : Int), .int .i64 ylo, .int .i64 yhi] 38)).trans (hb9.mono (by have := HB47.out.size; simp <;> omega)))
              clear hb9
              go_wp2_with fail
              go_ret
              exact ⟨rfl, HBW.out.trans (HB9.out.mono hw4)⟩
            by_cases hhig : yhi < hi
            · go_wp2_with fail
              refine (HSO.out _).mono ?_
              rintro e w9 ⟨rfl, hb9⟩
              have HB9 := hid ((HB47.out.alloc (by have := HB47.out.size; omega) (.cells #[.int .i64 (k : Int), .int .i64 ylo, .int .i64 yhi] 38)).trans (hb9.mono (by have := HB47.out.size; simp <;> omega)))
              clear hb9
              go_wp2_with fail
              go_ret
              exact ⟨rfl, HBW.out.trans (HB9.out.mono hw4)⟩
            have hrs := HROW.out
            have HROW7 := hid (own_belowR HROW.out (HB5.out.trans (HB7.out.mono (by omega))))
            have hbs7 := HB47.out.size
            have hl2 : rs.length ≤ 16 := by omega
            have HADD := hid (HSH.out.add ⟨(k : Int), ylo, yhi⟩ HRR.out (by rw [hrl, HLH.out.1]; show ylo ≤ lo; omega) (by rw [hrl, HLH.out.2]; show hi ≤ yhi; omega))
            obtain ⟨i0, hinf, hz0, hz1, hz2⟩ := info_parts info38
            clear hrs
            obtain ⟨W8, hW8⟩ : ∃ W8, w7.alloc (.cells #[.int .i64 (k : Int), .int .i64 ylo, .int .i64 yhi] 38) = W8 := ⟨_, rfl⟩
            have HR8 := hid (show W8.ownsRow w4.heap.size 38 3 u11 rs.length (rs.flatMap Mach.cells) by rw [← hW8]; exact HROW7.out.alloc _)
            have HB8 := hid (show Below w4.heap.size w4 W8 by rw [← hW8]; exact HB47.out.alloc hbs7 _)
            have hp8 : W8.heap[w7.heap.size]? = some (.cells #[.int .i64 (k : Int), .int .i64 ylo, .int .i64 yhi] 38 (0, 0)) := by rw [← hW8]; exact heap_alloc_new w7 _
            have y0 : W8.cell? ⟨w7.heap.size, 0, none⟩ = some (.int .i64 (k : Int)) := by simp [World.cell?, hp8]
            have y1 : W8.cell? ⟨w7.heap.size, 1, none⟩ = some (.int .i64 ylo) := by simp [World.cell?, hp8]
            have y2 : W8.cell? ⟨w7.heap.size, 2, none⟩ = some (.int .i64 yhi) := by simp [World.cell?, hp8]
            have HW8 := hid hW8
            clear hW8 hp8
            go_upto_region 19 with fail
            rw [HW8.out]
            clear HW8 hx7 hy7
            have hbs8 := HB8.out.size
            go_wp2_with (at_builtin; refine wpList_append_own _ rfl _ _ 32 rfl w4.heap.size 38 i0 (.agg #[.int .i64 0, .int .i64 0, .int .i64 0]) 3 24 Try.underlying32 hinf hz0 hz1 hz2 rfl (by decide) _ _ _ rfl (HR8.out.alloc _) ⟨W8.heap.size, 0, none⟩ 1 1 [.int .i64 (k : Int), .int .i64 ylo, .int .i64 yhi] rfl rfl ((made_rd W8 w4.heap.size ⟨(k : Int), ylo, yhi⟩ hbs8).cells rfl) (by intro u hu; simp at hu; rcases hu with rfl | rfl | rfl <;> rfl) (by unfold maxLen; omega) (by omega) (by simp; omega) ?_; intro v' w10 hown10 hgrow10 _)
            refine ⟨⟨k + 1, hlt, by go_num, rs ++ [⟨(k : Int), ylo, yhi⟩], by simp [hrl], HADD.out, ?_, ?_⟩, by simp only [intOf]; omega⟩
            · rw [List.flatMap_append, List.length_append]
              simpa [Mach.cells] using hown10
            · exact (HB8.out.alloc hbs8 _).grown hgrow10 (by simp; omega) (fun q e => (HR8.out.lt q e).1)

      case pos =>
        have hEl : (0 : Int) < (es.length : Int) := by omega
        have hne : ¬ (es.length : Int) = 0 := by omega
        obtain ⟨c0, c1⟩ := HTW.out _ HB45.out
        have hj : k % es.length < es.length := Nat.mod_lt _ hel
        obtain ⟨be, oe, rfl, hbe, hce⟩ := HEC.out _ hj
        have z0 := ((HBW.out.trans (HB45.out.mono hw4)).cell (p := ⟨be, oe + k % es.length, none⟩) hbe).trans (hce _ hj)
        have hj1 : (0 : Int) ≤ (k : Int) % (es.length : Int) := Int.emod_nonneg _ (by omega)
        have hj2 : (k : Int) % (es.length : Int) < (es.length : Int) := Int.emod_lt_of_pos _ (by omega)
        have hj3 : ((k : Int) % (es.length : Int)).toNat = k % es.length := by rw [show (k : Int) % (es.length : Int) = ((k % es.length : Nat) : Int) by simp]; simp only [Int.toNat_natCast]
        have z1 : W5.cell? ⟨be, oe + ((k : Int) % (es.length : Int)).toNat, none⟩ = some (.int .i16 es[k % es.length]) := by rw [hj3]; exact z0
        generalize es[k % es.length] = ee at *
        clear hel hce hj3
        go_upto_region 15 with fail
        go_cut [14] (fun x wx => (∃ vv : Int, x = .int .i64 vv) ∧ wx = W5.drew)
        case first =>
          go_region
          all_goals
            go_wp2_with fail
            go_meet
            exact ⟨⟨_, rfl⟩, rfl⟩
        case rest =>
          obtain ⟨⟨vv, rfl⟩, rfl⟩ := hcut
          have HB6 := hid ((Below.refl W5.heap.size W5).drew)
          have c0 : W5.drew.cell? ⟨w.heap.size, 0, none⟩ = some (.int .i64 off) := c0
          have c1 : W5.drew.cell? ⟨w.heap.size, 1, none⟩ = some (.int .i64 per) := c1
          clear z0 z1
          go_wp2_with fail
          all_goals
            refine (read_cases _ _ _ _ _).mono ?_
            rintro e w7 ⟨he, hb7⟩
            have HB47 := hid (HB45.out.trans ((HB6.out.trans (hb7.mono HB6.out.size)).mono (by have := HB45.out.size; omega)))
            have HB7 := hid (HB6.out.trans (hb7.mono HB6.out.size))
            have hx7 := (HN5.out w7 HB7.out).1
            have hy7 := (HN5.out w7 HB7.out).2
            have hlt7 : wr.heap.size < w7.heap.size := by have := HB7.out.size; omega
            have hne7 : wr.heap.size ≠ w7.heap.size := by omega
            clear hb7 c0 c1 hx5
            rcases he with ⟨ylo, yhi, rfl, hrr⟩ | rfl
            case inr =>
              go_wp2_with fail
              refine (HSO.out _).mono ?_
              rintro e w9 ⟨rfl, hb9⟩
              have HB9 := hid ((HB47.out.alloc (by have := HB47.out.size; omega) (.cells #[.int .i64 0, .int .i64 0, .int .i64 0] 38)).trans (hb9.mono (by have := HB47.out.size; simp <;> omega)))
              clear hb9
              go_wp2_with fail
              go_ret
              exact ⟨rfl, HBW.out.trans (HB9.out.mono hw4)⟩
            case inl =>
              have HRR := hid hrr
              clear hrr
              by_cases hlow : lo < ylo
              · go_wp2_with fail
                refine (HSO.out _).mono ?_
                rintro e w9 ⟨rfl, hb9⟩
                have HB9 := hid ((HB47.out.alloc (by have := HB47.out.size; omega) (.cells #[.int .i64 (k : Int), .int .i64 ylo, .int .i64 yhi] 38)).trans (hb9.mono (by have := HB47.out.size; simp <;> omega)))
                clear hb9
                go_wp2_with fail
                go_ret
                exact ⟨rfl, HBW.out.trans (HB9.out.mono hw4)⟩
              by_cases hhig : yhi < hi
              · go_wp2_with fail
                refine (HSO.out _).mono ?_
                rintro e w9 ⟨rfl, hb9⟩
                have HB9 := hid ((HB47.out.alloc (by have := HB47.out.size; omega) (.cells #[.int .i64 (k : Int), .int .i64 ylo, .int .i64 yhi] 38)).trans (hb9.mono (by have := HB47.out.size; simp <;> omega)))
                clear hb9
                go_wp2_with fail
                go_ret
                exact ⟨rfl, HBW.out.trans (HB9.out.mono hw4)⟩
              have hrs := HROW.out
              have HROW7 := hid (own_belowR HROW.out (HB5.out.trans (HB7.out.mono (by omega))))
              have hbs7 := HB47.out.size
              have hl2 : rs.length ≤ 16 := by omega
              have HADD := hid (HSH.out.add ⟨(k : Int), ylo, yhi⟩ HRR.out (by rw [hrl, HLH.out.1]; show ylo ≤ lo; omega) (by rw [hrl, HLH.out.2]; show hi ≤ yhi; omega))
              obtain ⟨i0, hinf, hz0, hz1, hz2⟩ := info_parts info38
              clear hrs
              obtain ⟨W8, hW8⟩ : ∃ W8, w7.alloc (.cells #[.int .i64 (k : Int), .int .i64 ylo, .int .i64 yhi] 38) = W8 := ⟨_, rfl⟩
              have HR8 := hid (show W8.ownsRow w4.heap.size 38 3 u11 rs.length (rs.flatMap Mach.cells) by rw [← hW8]; exact HROW7.out.alloc _)
              have HB8 := hid (show Below w4.heap.size w4 W8 by rw [← hW8]; exact HB47.out.alloc hbs7 _)
              have hp8 : W8.heap[w7.heap.size]? = some (.cells #[.int .i64 (k : Int), .int .i64 ylo, .int .i64 yhi] 38 (0, 0)) := by rw [← hW8]; exact heap_alloc_new w7 _
              have y0 : W8.cell? ⟨w7.heap.size, 0, none⟩ = some (.int .i64 (k : Int)) := by simp [World.cell?, hp8]
              have y1 : W8.cell? ⟨w7.heap.size, 1, none⟩ = some (.int .i64 ylo) := by simp [World.cell?, hp8]
              have y2 : W8.cell? ⟨w7.heap.size, 2, none⟩ = some (.int .i64 yhi) := by simp [World.cell?, hp8]
              have HW8 := hid hW8
              clear hW8 hp8
              go_upto_region 19 with fail
              rw [HW8.out]
              clear HW8 hx7 hy7
              have hbs8 := HB8.out.size
              go_wp2_with (at_builtin; refine wpList_append_own _ rfl _ _ 32 rfl w4.heap.size 38 i0 (.agg #[.int .i64 0, .int .i64 0, .int .i64 0]) 3 24 Try.underlying32 hinf hz0 hz1 hz2 rfl (by decide) _ _ _ rfl (HR8.out.alloc _) ⟨W8.heap.size, 0, none⟩ 1 1 [.int .i64 (k : Int), .int .i64 ylo, .int .i64 yhi] rfl rfl ((made_rd W8 w4.heap.size ⟨(k : Int), ylo, yhi⟩ hbs8).cells rfl) (by intro u hu; simp at hu; rcases hu with rfl | rfl | rfl <;> rfl) (by unfold maxLen; omega) (by omega) (by simp; omega) ?_; intro v' w10 hown10 hgrow10 _)
              refine ⟨⟨k + 1, hlt, by go_num, rs ++ [⟨(k : Int), ylo, yhi⟩], by simp [hrl], HADD.out, ?_, ?_⟩, by simp only [intOf]; omega⟩
              · rw [List.flatMap_append, List.length_append]
                simpa [Mach.cells] using hown10
              · exact (HB8.out.alloc hbs8 _).grown hgrow10 (by simp; omega) (fun q e => (HR8.out.lt q e).1)

    · have hltI : ¬ (k : Int) < (l.length : Int) := by omega
      obtain rfl : k = l.length := by omega
      obtain ⟨uad, ucap, rfl, -⟩ := own_cap HROW.out
      have HRL := hid hrl
      have HRW := hid (show wr.ownsRow w4.heap.size 38 3 (.slice uad l.length ucap) l.length (rs.flatMap Mach.cells) by have := HROW.out; rwa [hrl] at this)
      have HGR := hid (fun i k => HGE.out rs HSH.out hrl (i := i) (k := k))
      have HRD := hid (show ∀ j, j < l.length → rdRight (rs.getD j ⟨0, 0, 0⟩) 16 = true from fun j hj => (HSH.out j (by omega)).1)
      have HRC := hid (show ∀ j, j < l.length → ∃ b, uad = some ⟨b, 0, none⟩ ∧ b < wr.heap.size ∧ wr.cell? ⟨b, j * 3, none⟩ = some (.int .i64 (rs.getD j ⟨0, 0, 0⟩).cold) ∧ wr.cell? ⟨b, j * 3 + 1, none⟩ = some (.int .i64 (rs.getD j ⟨0, 0, 0⟩).power) ∧ wr.cell? ⟨b, j * 3 + 2, none⟩ = some (.int .i64 (rs.getD j ⟨0, 0, 0⟩).start) from fun j hj => by
        obtain ⟨g, cap2, e, hgl, -⟩ := HRW.out.form (by omega)
        obtain ⟨rfl, -, -⟩ := Value.slice.inj e
        have key : ∀ c (hc3 : c < 3) u, (rs.getD j ⟨0, 0, 0⟩).cells[c]? = some u → wr.cell? ⟨g, j * 3 + c, none⟩ = some u := by
          intro c hc3 u hu
          have h1 := mach_cells_get rs j (by omega) c hc3
          have h2 : rs.getD j ⟨0, 0, 0⟩ = rs[j]'(by omega) := by simp [List.getD_eq_getElem?_getD, show j < rs.length by omega]
          rw [HRW.out.cellAt (j * 3 + c) (by omega), h1, ← hu, h2]
          exact (List.getElem?_eq_getElem _).symm
        exact ⟨g, rfl, (HRW.out.lt g rfl).2, key 0 (by omega) _ rfl, key 1 (by omega) _ rfl, key 2 (by omega) _ rfl⟩)
      have HNA := hid (show ∀ j, j < nr.length → ∃ b, nad = some ⟨b, 0, none⟩ ∧ b < wr.heap.size ∧ wr.cell? ⟨b, j, none⟩ = some (.int .i64 (nr.getD j 0 : Nat)) from fun j hj => by
        have hno := own_belowR HNO3.out HB.out
        obtain ⟨g, cap2, e, -, -⟩ := hno.form (by omega)
        obtain ⟨rfl, -, -⟩ := Value.slice.inj e
        refine ⟨g, rfl, (hno.lt g rfl).2, ?_⟩
        rw [hno.cellAt j (by omega)]
        simp [natsV, List.getD_eq_getElem?_getD, hj])
      have HBWR := hid (HBW.out.trans (HB.out.mono hw4))
      clear HX4 HTW HEC HNO3 HAL HGE HROW HSH HB hbs
      rw [hrl]
      clear hrl
      obtain ⟨wa, rfl⟩ : ∃ wa, wa = wr := ⟨_, rfl⟩
      go_wp2_with fail
      go_loopw [125] (fun z wq => ∃ i : Nat, i ≤ nr.length ∧ z = .int .i64 i ∧ Below wa.heap.size wa wq) (fun z _ => nr.length - (intOf z).toNat)
      case atStart => exact ⟨0, Nat.zero_le _, rfl, Below.refl _ _⟩
      case round =>
        obtain ⟨i, hi, rfl, hbi⟩ := hrel
        obtain ⟨wi, rfl⟩ : ∃ wi, wi = wr := ⟨_, rfl⟩
        have HBI := hid hbi
        clear hbi
        by_cases hil : i < nr.length
        · have hilI : (i : Int) < (nr.length : Int) := by omega
          obtain ⟨nb, rfl, hnb, ni⟩ := HNA.out i hil
          go_wp2_with fail
          go_loopw [18] (fun z wq => ∃ j : Nat, i < j ∧ j ≤ nr.length ∧ z = .int .i64 j ∧ Below wa.heap.size wa wq) (fun z _ => nr.length - (intOf z).toNat)
          case atStart => exact ⟨i + 1, by omega, by omega, by go_num, HBI.out⟩
          case round =>
            obtain ⟨j, hij, hj, rfl, hbj⟩ := hrel
            obtain ⟨wj, rfl⟩ : ∃ wj, wj = wr := ⟨_, rfl⟩
            have HBJ := hid hbj
            clear hbj
            by_cases hjl : j < nr.length
            · have hjlI : (j : Int) < (nr.length : Int) := by omega
              obtain ⟨nb2, e2, -, nj⟩ := HNA.out j hjl
              obtain rfl : nb2 = nb := by injection e2 with e2; injection e2 with e2; exact e2.symm
              have hmi := HNM.out i (by omega)
              have hmj := HNM.out j hjl
              have HNEG := hid (HGR.out i j hij hjl)
              generalize nr.getD i 0 = p at *
              generalize nr.getD j 0 = q at *
              obtain ⟨ub, rfl, hub, p0, p1, p2⟩ := HRC.out p hmi
              obtain ⟨ub2, e3, -, q0, q1, q2⟩ := HRC.out q hmj
              obtain rfl : ub2 = ub := by injection e3 with e3; injection e3 with e3; exact e3.symm
              have HNR := hid (fun W => nearer10_ok (rs.getD q ⟨0, 0, 0⟩) (rs.getD p ⟨0, 0, 0⟩) (HRD.out q hmj) (HRD.out p hmi) W)
              generalize rs.getD q ⟨0, 0, 0⟩ = rq at *
              generalize rs.getD p ⟨0, 0, 0⟩ = rp at *
              obtain ⟨nv, hnv⟩ : ∃ nv, nearer2 rq rp = nv := ⟨_, rfl⟩
              rw [hnv] at HNEG HNR
              have hnn := HNEG.out
              clear hnv HNEG e2 e3
              have hpI : (p : Int) < (l.length : Int) := by omega
              have hqI : (q : Int) < (l.length : Int) := by omega
              have HQ := hid (show ∀ W, Below wa.heap.size wa W → W.cell? ⟨nb2, i, none⟩ = some (.int .i64 (p : Int)) ∧ W.cell? ⟨nb2, j, none⟩ = some (.int .i64 (q : Int)) ∧ W.cell? ⟨ub2, p * 3, none⟩ = some (.int .i64 rp.cold) ∧ W.cell? ⟨ub2, p * 3 + 1, none⟩ = some (.int .i64 rp.power) ∧ W.cell? ⟨ub2, p * 3 + 2, none⟩ = some (.int .i64 rp.start) ∧ W.cell? ⟨ub2, q * 3, none⟩ = some (.int .i64 rq.cold) ∧ W.cell? ⟨ub2, q * 3 + 1, none⟩ = some (.int .i64 rq.power) ∧ W.cell? ⟨ub2, q * 3 + 2, none⟩ = some (.int .i64 rq.start) from fun W hb => ⟨bcs hb ni, bcs hb nj, bcs hb p0, bcs hb p1, bcs hb p2, bcs hb q0, bcs hb q1, bcs hb q2⟩)
              clear ni nj p0 p1 p2 q0 q1 q2
              obtain ⟨pc, pp, ps⟩ := rp
              obtain ⟨qc, qp, qs⟩ := rq
              dsimp only at HQ
              simp only [Mach.agg] at HNR
              go_upto_region 27 with fail
              go_cut [19, 20] (fun x y wx => x = .int .i64 nv ∧ y = .int .i64 0 ∧ Below wa.heap.size wa wx)
              case first =>
                go_region_held3 (fun W => W.cell? ⟨nb2, i, none⟩ = some (.int .i64 (p : Int)) ∧ W.cell? ⟨nb2, j, none⟩ = some (.int .i64 (q : Int)) ∧ W.cell? ⟨ub2, p * 3, none⟩ = some (.int .i64 pc) ∧ W.cell? ⟨ub2, p * 3 + 1, none⟩ = some (.int .i64 pp) ∧ W.cell? ⟨ub2, p * 3 + 2, none⟩ = some (.int .i64 ps) ∧ W.cell? ⟨ub2, q * 3, none⟩ = some (.int .i64 qc) ∧ W.cell? ⟨ub2, q * 3 + 1, none⟩ = some (.int .i64 qp) ∧ W.cell? ⟨ub2, q * 3 + 2, none⟩ = some (.int .i64 qs))
                  (exact HQ.out _ (by first | exact HBJ.out | exact HBJ.out.drew | exact HBJ.out.drew.trans (Below.mono (by assumption) HBJ.out.size)))
                  (first | (go_at_call 10; refine (HNR.out _).mono ?_; rintro e w8 ⟨rfl, hb8⟩))
                all_goals
                  go_wp2_with fail
                  go_meet
                  exact ⟨rfl, rfl, HBJ.out.drew.trans (hb8.mono HBJ.out.size)⟩
              case rest =>
                obtain ⟨rfl, rfl, hbx⟩ := hcut
                have HBX := hid hbx
                clear hbx
                go_wp2_with fail
                exact ⟨⟨j + 1, by omega, by omega, by go_num, HBX.out⟩, by simp only [intOf]; omega⟩
            · have hjlI : ¬ (j : Int) < (nr.length : Int) := by omega
              go_wp2_with fail
              exact ⟨⟨i + 1, hil, by go_num, HBJ.out⟩, by simp only [intOf]; omega⟩
        · have hilI : ¬ (i : Int) < (nr.length : Int) := by omega
          have HBF := hid (HBWR.out.trans (HBI.out.mono HBWR.out.size))
          have HBI2 := hid HBI.out
          clear HBWR HBI
          have HCF := hid (HCO.out _ HBF.out)
          obtain ⟨cz, hcp⟩ := HCP.out
          have HCF2 := hid (show Calls Try.prog 11 #[.slice a l.length cap] wi fun e w' => e = .returned (.tuple #[.int .i64 (countR l).1, .int .i64 (countR l).2.1, .int .i64 0]) ∧ Below wi.heap.size wi w' from (HCF.out).mono fun e w' h => by
            obtain ⟨h1, h2⟩ := h
            rw [cz] at h1
            exact ⟨h1, h2⟩)
          clear HCF cz
          generalize (countR l).1 = tm at *
          generalize (countR l).2.1 = pts at *
          have HPT := hid hcp
          clear hcp HCO HCP
          by_cases hp0 : pts = 0
          · subst hp0
            go_wp2_with fail
            refine HCF2.out.mono ?_
            rintro e w8 ⟨rfl, hb8⟩
            have HB8 := hid (HBF.out.trans (hb8.mono HBF.out.size))
            clear hb8
            go_wp2_with fail
            refine (HSO.out _).mono ?_
            rintro e w9 ⟨rfl, hb9⟩
            go_wp2_with fail
            go_ret
            exact ⟨rfl, HB8.out.trans (hb9.mono HB8.out.size)⟩
          · obtain ⟨hn0, -, hpl, htm⟩ : 0 < nr.length ∧ pts ≠ 0 ∧ pts ≤ nr.length ∧ (stAt l (nr.getD 0 0)).team = tm := HPT.out.resolve_left hp0
            obtain ⟨nb, rfl, hnb, n0⟩ := HNA.out 0 hn0
            have n0i := bcs HBI2.out n0
            have hm0 := HNM.out 0 hn0
            generalize nr.getD 0 0 = q at *
            obtain ⟨a', cap', e0, -, hcs⟩ := HSC.out
            obtain ⟨bs, os, rfl, hbs, hcl⟩ := hcs q hm0
            obtain ⟨rfl, -, -⟩ := Value.slice.inj e0
            have hst : l[q] = stAt l q := by simp [stAt, List.getD_eq_getElem?_getD, hm0]
            have s0 := (hcl q hm0).1
            rw [hst, htm] at s0
            have hqI : (q : Int) < (l.length : Int) := by omega
            have hn0I : (0 : Int) < (nr.length : Int) := by omega
            have HSI := hid (show ∀ W, Below wi.heap.size wi W → W.cell? ⟨nb, 0, none⟩ = some (.int .i64 (q : Int)) ∧ W.cell? ⟨bs, os + q * 4, none⟩ = some (.int .i64 tm) from fun W hb => ⟨bcs hb n0i, ((HBF.out.trans (hb.mono HBF.out.size)).cell (p := ⟨bs, os + q * 4, none⟩) hbs).trans s0⟩)
            clear hcs hcl s0 hst htm e0
            go_wp2_with fail
            refine HCF2.out.mono ?_
            rintro e w8 ⟨rfl, hb8⟩
            have HB8 := hid (HBF.out.trans (hb8.mono HBF.out.size))
            obtain ⟨c0, c1⟩ := HSI.out _ hb8
            clear hb8
            go_wp2_with fail
            refine (HSO.out _).mono ?_
            rintro e w9 ⟨rfl, hb9⟩
            go_wp2_with fail
            go_ret
            exact ⟨rfl, HB8.out.trans (hb9.mono HB8.out.size)⟩
end Go.Proofs.Ytolnhicngepnnaa
