/- glide: brooms. -/
import Derived.Test.YtolnhicngepnnaaGreatT7
namespace Go.Proofs.YtolnhicngepnnaaGreat
open Go.RowKit

/-- Brooms: from (cold), to (power), how strong (start). -/
def broomOk (b : Mach) : Bool := inB b.cold 0 b.power && (decide (b.power ≤ 6000) && inB b.start 0 1000)
theorem odd108_any (b : Mach) (w : World) : Calls Tryz.prog 108 #[.agg #[.int .i64 b.cold, .int .i64 b.power, .int .i64 b.start]] w fun e w' => e = .returned (.bool (!broomOk b)) ∧ Below w.heap.size w w' := by
  obtain ⟨f, t, s⟩ := b
  dsimp only
  have HR := hid (show broomOk ⟨f, t, s⟩ = (inB f 0 t && (decide (t ≤ 6000) && inB s 0 1000)) from rfl)
  have H1 := hid (fun W => within26_any f 0 t W)
  have H2 := hid (fun W => within26_any s 0 1000 W)
  generalize broomOk ⟨f, t, s⟩ = r at *
  generalize inB f 0 t = b1 at *
  generalize inB s 0 1000 = b2 at *
  have HB := hid ((Below.refl w.heap.size w).alloc (Nat.le_refl _) (.cells #[.int .i64 f, .int .i64 t, .int .i64 s] 83))
  by_cases ht : t ≤ 6000
  · rw [decide_eq_true ht] at HR
    have HT := hid (show decide ((6000 : Int) < t) = false from decide_eq_false (by omega))
    go_enter Tryz.func108, Tryz.ntmps108
    go_wp2_with fail
    refine (H1.out _).mono ?_
    rintro e w' ⟨rfl, rfl⟩
    cases b1
    · go_wp2_with fail
      go_ret
      exact ⟨by rw [HR.out]; rfl, HB.out⟩
    · go_wp2_with fail
      refine (H2.out _).mono ?_
      rintro e w' ⟨rfl, rfl⟩
      go_wp2_with fail
      go_ret
      exact ⟨ret_bool (by rw [HR.out, HT.out]; cases b2 <;> rfl), HB.out⟩
  · rw [decide_eq_false ht] at HR
    have ht2 : (6000 : Int) < t := by omega
    clear ht
    go_enter Tryz.func108, Tryz.ntmps108
    go_wp2_with fail
    refine (H1.out _).mono ?_
    rintro e w' ⟨rfl, rfl⟩
    cases b1
    · go_wp2_with fail
      go_ret
      exact ⟨by rw [HR.out]; rfl, HB.out⟩
    · go_wp2_with fail
      go_ret
      exact ⟨by rw [HR.out]; rfl, HB.out⟩
set_option maxHeartbeats 1000000 in
theorem index152_any (v : Value) (l : List Mach) (w : World) (hs : SlM w v l) :
    Calls Tryz.prog 152 #[v, .func (.func 108) #[] #[]] w fun e w' => e = .returned (.int .i64 (idxOf (fun b => !broomOk b) l)) ∧ Below w.heap.size w w' := by
  obtain ⟨a, cap, rfl, hl, hc⟩ := hs.open
  clear hs
  have HF := hid (fun (b : Mach) (W : World) => odd108_any b W)
  have HC := hid hc
  clear hc
  obtain ⟨p, hpe⟩ : ∃ p : Mach → Bool, (fun b => !broomOk b) = p := ⟨_, rfl⟩
  have HPE := hid (show ∀ b, (!broomOk b) = p b from fun b => by rw [← hpe])
  rw [hpe]
  clear hpe
  go_enter Tryz.func152, Tryz.ntmps152
  go_wp2
  go_loopw [8] (fun i wr => ∃ k : Nat, k ≤ l.length ∧ i = .int .i64 k ∧ Below w.heap.size w wr ∧ ∀ j (h : j < l.length), j < k → p l[j] = false) (fun i _ => l.length - (intOf i).toNat)
  case atStart => exact ⟨0, Nat.zero_le _, rfl, Below.refl _ _, by omega⟩
  case round =>
    obtain ⟨k, hk, rfl, hb, hno⟩ := hrel
    have HN := hid hno
    clear hno
    by_cases hlt : k < l.length
    · obtain ⟨b, off, rfl, hbl, hc⟩ := HC.out k hlt
      have hx0 := (hb.cell (p := ⟨b, off + k * 3, none⟩) hbl).trans (hc k hlt).1
      have hx1 := (hb.cell (p := ⟨b, off + k * 3 + 1, none⟩) hbl).trans (hc k hlt).2.1
      have hx2 := (hb.cell (p := ⟨b, off + k * 3 + 2, none⟩) hbl).trans (hc k hlt).2.2
      clear hc HC
      generalize hxe : l[k] = x at *
      have HX := hid hxe
      clear hxe
      have hcall := hid (HF.out x wr)
      rw [HPE.out] at hcall
      go_wp2_with fail
      refine hcall.out.mono ?_
      rintro e w' ⟨rfl, hb2⟩
      clear hcall
      by_cases hp : p x = true
      · go_wp2
        go_ret
        exact ⟨ret_int (idxOf_hit p l k hlt HN.out (by rw [HX.out]; exact hp)).symm, hb.trans (hb2.mono hb.size)⟩
      · have hp' : p x = false := by simpa using hp
        go_wp2
        go_roundw
        case rel =>
          refine ⟨k + 1, by omega, by go_num, hb.trans (hb2.mono hb.size), ?_⟩
          intro j hj hjk
          by_cases e : j = k
          · subst e; rw [HX.out]; exact hp'
          · exact HN.out j hj (by omega)
        case measure => simp [intOf]; omega
    · go_wp2
      go_ret
      have hkl : k = l.length := by omega
      exact ⟨ret_int (idxOf_none p l (fun j hj => HN.out j hj (by omega))).symm, hb⟩
def broomsOk (l : List Mach) : Bool := decide (l.length ≤ 64) && !l.any (fun b => !broomOk b)
theorem checkBrooms_any (v : Value) (l : List Mach) (w : World) (hs : SlM w v l) : Calls Tryz.prog 62 #[v] w fun e w' => e = .returned (.int .i64 (if broomsOk l then 0 else 2)) ∧ Below w.heap.size w w' := by
  have H1 := hid (index152_any v l w hs)
  have HA := hid (idxOf_any (fun b : Mach => !broomOk b) l)
  have HR := hid (show broomsOk l = (decide (l.length ≤ 64) && !l.any (fun b => !broomOk b)) from rfl)
  rw [← HA.out] at HR
  obtain ⟨i, hi⟩ : ∃ i, idxOf (fun b : Mach => !broomOk b) l = i := ⟨_, rfl⟩
  rw [hi] at HR H1
  clear HA hi
  obtain ⟨ans, hans⟩ : ∃ ans : Int, (if broomsOk l = true then 0 else 2) = ans := ⟨_, rfl⟩
  rw [hans]
  rw [HR.out] at hans
  have HAN := hid hans
  clear hans HR
  have H2 : Calls Tryz.prog 109 #[v, .func (.func 108) #[] #[]] w fun e w' => e = .returned (.bool (decide (0 ≤ i))) ∧ Below w.heap.size w w' := by
    go_enter Tryz.func109, Tryz.ntmps109
    go_wp2_with fail
    refine H1.out.mono ?_
    rintro e w' ⟨rfl, hb⟩
    go_wp2_with fail
    go_ret
    exact ⟨rfl, hb⟩
  have H2 := hid H2
  obtain ⟨a, cap, rfl, hl, -⟩ := hs.open
  clear hs H1
  obtain ⟨n, hn⟩ : ∃ n, l.length = n := ⟨_, rfl⟩
  rw [hn] at hl HAN H2 ⊢
  clear hn
  generalize decide (0 ≤ i) = b at *
  by_cases h64 : n ≤ 64
  · have h64' : ¬ (64 : Int) < n := by omega
    rw [decide_eq_true h64] at HAN
    go_enter Tryz.func62, Tryz.ntmps62
    go_wp2_with fail
    refine H2.out.mono ?_
    rintro e w' ⟨rfl, hb⟩
    cases b
    all_goals
      go_wp2_with fail
      go_ret
      exact ⟨by rw [← HAN.out]; rfl, hb⟩
  · have h64' : (64 : Int) < n := by omega
    rw [decide_eq_false h64] at HAN
    go_enter Tryz.func62, Tryz.ntmps62
    go_wp2_with fail
    go_ret
    exact ⟨by rw [← HAN.out]; rfl, Below.refl _ _⟩
/-- The strength at a tick. -/
def strS (t : Int) (n : Int) (b : Mach) : Int := if inB t b.cold (b.power - 1) then max n b.start else n
def strR (l : List Mach) (t : Int) : Int := l.foldl (strS t) 0
set_option maxHeartbeats 1000000 in
theorem strength112_any (v : Value) (l : List Mach) (t : Int) (w : World) (hs : SlM w v l) (hok : ∀ b ∈ l, 0 ≤ b.power ∧ b.power ≤ 6000) :
    Calls Tryz.prog 112 #[v, .int .i64 t] w fun e w' => e = .returned (.int .i64 (strR l t)) ∧ Below w.heap.size w w' := by
  obtain ⟨a, cap, rfl, hl, hc⟩ := hs.open
  clear hs
  have HW := hid (fun (f u : Int) (W : World) => within26_any t f u W)
  have HC := hid hc
  have HOK := hid hok
  clear hc hok
  go_enter Tryz.func112, Tryz.ntmps112
  go_wp2_with fail
  go_loopw [5, 10] (fun n i wr => ∃ k : Nat, k ≤ l.length ∧ i = .int .i64 k ∧ n = .int .i64 ((l.take k).foldl (strS t) 0) ∧ Below w.heap.size w wr) (fun _ i _ => l.length - (intOf i).toNat)
  case atStart => exact ⟨0, Nat.zero_le _, rfl, rfl, Below.refl _ _⟩
  case round =>
    obtain ⟨k, hk, rfl, rfl, hb⟩ := hrel
    by_cases hlt : k < l.length
    · obtain ⟨b, off, rfl, hbl, hc⟩ := HC.out k hlt
      have hx0 := (hb.cell (p := ⟨b, off + k * 3, none⟩) hbl).trans (hc k hlt).1
      have hx1 := (hb.cell (p := ⟨b, off + k * 3 + 1, none⟩) hbl).trans (hc k hlt).2.1
      have hx2 := (hb.cell (p := ⟨b, off + k * 3 + 2, none⟩) hbl).trans (hc k hlt).2.2
      have hk1 := HOK.out l[k] (List.getElem_mem _)
      have HST := hid (show (l.take (k + 1)).foldl (strS t) 0 = strS t ((l.take k).foldl (strS t) 0) l[k] by
        rw [List.take_succ_eq_append_getElem hlt, List.foldl_append]; rfl)
      clear hc HC HOK
      obtain ⟨s2, hs2⟩ : ∃ s2, (l.take (k + 1)).foldl (strS t) 0 = s2 := ⟨_, rfl⟩
      rw [hs2] at HST
      have HE2 := hid hs2
      clear hs2
      generalize (l.take k).foldl (strS t) 0 = s1 at *
      obtain ⟨⟨f, u, s⟩, hxe⟩ : ∃ x, l[k] = x := ⟨_, rfl⟩
      rw [hxe] at hx0 hx1 hx2 hk1 HST
      clear hxe
      dsimp only at hx0 hx1 hx2 hk1
      have hw : IntKind.i64.wrap (u - 1) = u - 1 := by rw [IntKind.wrap_i64]; omega
      have HBN := hid (hb.alloc hb.size (.cells #[.int .i64 f, .int .i64 u, .int .i64 s] 83))
      clear hk1
      have hcall := hid (HW.out f (u - 1))
      have HS2 := hid (show s2 = if inB t f (u - 1) then max s1 s else s1 from HST.out)
      clear HST HW
      generalize inB t f (u - 1) = bb at *
      have HL := hid hlt
      go_wp2_with fail
      refine (hcall.out _).mono ?_
      rintro e w' ⟨rfl, rfl⟩
      cases bb
      all_goals
        go_wp2
        go_roundw
        case rel => exact ⟨k + 1, by omega, by go_num, by rw [HE2.out, HS2.out]; first | rfl | (congr 1; simp only [if_true, Int.max_def]; split <;> split <;> omega), HBN.out⟩
        case measure => simp [intOf]; omega
    · go_wp2
      go_ret
      have hkl : k = l.length := by omega
      exact ⟨ret_int (by rw [hkl, List.take_length]; rfl), hb⟩
end Go.Proofs.YtolnhicngepnnaaGreat
