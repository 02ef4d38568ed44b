import Derived.Test.YtjjphiecjhijiaaDoorW1
import Derived.Test.YtjjphiecjhijiaaDoorQ4
import Derived.Test.YtjjphiecjhijiaaDoorN3
import Derived.Test.YtjjphiecjhijiaaDoorK1
import Derived.Test.YtjjphiecjhijiaaDoorC4
import Derived.Test.YtjjphiecjhijiaaDoorO4
namespace Go.Proofs.YtjjphiecjhijiaaDoor
open Go.RowKit Go.Maps

def p0 : PlantD := ⟨5, 0, 10, [4, 4, 4], [1, 3, 1], [⟨6, 2, 1⟩]⟩
theorem p0_coolC : p0.coolC = 6 := by kernel_rfl
theorem p0_coolE : p0.coolE = 0 := by kernel_rfl
theorem p0_coolL : p0.coolL = [1, 0, 1] := by kernel_rfl
theorem p0_heats : p0.heatsR [1, 0, 1] = [3, 7, 5] := by kernel_rfl
theorem p0_sched : p0.sched [1, 0, 1] = true := by kernel_rfl
def j3 : List Mach := [⟨0, 0, 3⟩, ⟨1, 0, 2⟩, ⟨2, 1, 2⟩]
def j2 : List Mach := [⟨0, 0, 1⟩, ⟨1, 0, 1⟩]
theorem j3_plan : planR j3 1 = ([2, 0, 1], 0) := by kernel_rfl
theorem j2_plan : planR j2 1 = ([], 7) := by kernel_rfl
def m4 : List (Int × Int) := [(0, 0), (10, 0), (11, 0), (1, 0)]
theorem m4_match : matchR m4 = ([(0, 3), (1, 2)], 2, 0) := by kernel_rfl
theorem r1_next : nextR 2 [[0, 1]] = ([1, 0], 0) := by kernel_rfl

/-- A new block holds a list. -/
theorem new_SlV (w : World) (cs : Array Value) (t : TypeId) (n cap : Nat) (vs : List Value) (h : cs.toList = vs) (hn : n ≤ 140737488351232) : SlV (w.alloc (.cells cs t)) (.slice (some ⟨w.heap.size, 0, none⟩) n cap) n vs := by
  refine ⟨_, cap, rfl, hn, .inr ⟨_, 0, rfl, by simp, fun i hi => ?_⟩⟩
  subst h
  rw [World.cell?_alloc_new, Nat.zero_add]
  simp
theorem bal {w w' : World} {o : Obj} (h : Below (w.alloc o).heap.size (w.alloc o) w') : Below w.heap.size w w' := ((Below.refl _ _).alloc (Nat.le_refl _) _).trans (h.mono (by simp))
theorem new_SlI (w : World) (cs : Array Value) (n cap : Nat) (l : List Int) (h : cs.toList = l.map (.int .i64)) (hn : n = l.length) (hl : l.length ≤ 140737488351232) : SlI (w.alloc (.cells cs 3)) (.slice (some ⟨w.heap.size, 0, none⟩) n cap) l := by
  subst hn
  exact new_SlV w cs 3 _ _ _ h hl
theorem samePairs_below (u v : Value) (l m : List (Int × Int)) (w : World) (h1 : SlK w u l) (h2 : SlK w v m) :
    Calls Tryd.prog 21 #[u, v] w fun e w' => e = .returned (.bool (l == m)) ∧ Below w.heap.size w w' :=
  (samePairs_any u v l m w h1 h2).mono fun e w' ⟨h, k, hk⟩ => ⟨h, by rw [hk]; exact drewNB (Below.refl _ _) k⟩
theorem same_refl (l : List Int) : sameI l l = true := by simp [sameI]
theorem j3_small : ∀ j ∈ j3, j.power ≤ 1000000 := by simp [j3]
theorem j2_small : ∀ j ∈ j2, j.power ≤ 1000000 := by simp [j2]
theorem j2_asked : askedE j2 1 = 0 := by kernel_rfl
theorem j2_crowd01 : crowdAt j2 1 0 1 = true := by kernel_rfl
theorem j2_crowd {r : Int × Int × Int} (h : CrowdIs j2 1 r) : r = (0, 1, 0) := by
  rcases h with ⟨a, b, rfl, hab, hb, hc, hno⟩ | ⟨rfl, hno⟩
  · by_cases h0 : a = 0 ∧ b = 1
    · obtain ⟨rfl, rfl⟩ := h0; rfl
    · have := hno 0 1 (by omega) (by omega) (by omega)
      rw [j2_crowd01] at this; cases this
  · have := hno 0 1 (by omega) (by omega)
    rw [j2_crowd01] at this; cases this
set_option maxRecDepth 100000 in
set_option maxHeartbeats 1000000 in
theorem awake_any (w : World) (hT : TabW w) : Calls Tryd.prog 11 #[] w fun e w' => e = .returned (.bool true) ∧ Below w.heap.size w w' := by
  have HT := hid hT
  clear hT
  go_enter Tryd.func11, Tryd.ntmps11
  go_upto_region 2 with fail
  obtain ⟨W4, hW4⟩ : ∃ W4, (((w.alloc (.cells #[.int .i64 4, .int .i64 4, .int .i64 4] 3)).alloc (.cells #[.int .i64 1, .int .i64 3, .int .i64 1] 3)).alloc (.cells #[.int .i64 6, .int .i64 2, .int .i64 1] 35)).alloc (.cells #[.int .i64 5, .int .i64 0, .int .i64 10, .slice (some ⟨w.heap.size, 0, none⟩) 3 3, .slice (some ⟨w.heap.size + 1, 0, none⟩) 3 3, .slice (some ⟨w.heap.size + 1 + 1, 0, none⟩) 1 1] 25) = W4 := ⟨_, rfl⟩
  rw [hW4]
  have hb4 : Below w.heap.size w W4 := by rw [← hW4]; exact ((((Below.refl _ _).alloc (Nat.le_refl _) _).alloc (by simp) _).alloc (by simp; omega) _).alloc (by simp; omega) _
  have s1 : SlI W4 (.slice (some ⟨w.heap.size, 0, none⟩) 3 3) [4, 4, 4] := by
    rw [← hW4]
    refine SlV.below (SlV.below (SlV.below (new_SlV w #[.int .i64 4, .int .i64 4, .int .i64 4] 3 3 3 _ rfl (by simp)) ((Below.refl _ _).alloc (Nat.le_refl _) _)) ((Below.refl _ _).alloc (Nat.le_refl _) _)) ((Below.refl _ _).alloc (Nat.le_refl _) _)
  have s2 : SlI W4 (.slice (some ⟨w.heap.size + 1, 0, none⟩) 3 3) [1, 3, 1] := by
    rw [← hW4]
    have h := new_SlV (w.alloc (.cells #[.int .i64 4, .int .i64 4, .int .i64 4] 3)) #[.int .i64 1, .int .i64 3, .int .i64 1] 3 3 3 _ rfl (by simp)
    rw [World.size_alloc] at h
    exact SlV.below (SlV.below h ((Below.refl _ _).alloc (Nat.le_refl _) _)) ((Below.refl _ _).alloc (Nat.le_refl _) _)
  have s3 : SlM W4 (.slice (some ⟨w.heap.size + 1 + 1, 0, none⟩) 1 1) [⟨6, 2, 1⟩] := by
    rw [← hW4]
    have h := new_SlV ((w.alloc (.cells #[.int .i64 4, .int .i64 4, .int .i64 4] 3)).alloc (.cells #[.int .i64 1, .int .i64 3, .int .i64 1] 3)) #[.int .i64 6, .int .i64 2, .int .i64 1] 35 1 1 _ rfl (by simp)
    rw [World.size_alloc, World.size_alloc] at h
    exact SlV.below h ((Below.refl _ _).alloc (Nat.le_refl _) _)
  have hc : ∀ i, W4.cell? ⟨w.heap.size + 1 + 1 + 1, i, none⟩ = (#[.int .i64 5, .int .i64 0, .int .i64 10, .slice (some ⟨w.heap.size, 0, none⟩) 3 3, .slice (some ⟨w.heap.size + 1, 0, none⟩) 3 3, .slice (some ⟨w.heap.size + 1 + 1, 0, none⟩) 1 1] : Array Value)[i]? := by
    intro i
    rw [← hW4]
    have h := World.cell?_alloc_new (((w.alloc (.cells #[.int .i64 4, .int .i64 4, .int .i64 4] 3)).alloc (.cells #[.int .i64 1, .int .i64 3, .int .i64 1] 3)).alloc (.cells #[.int .i64 6, .int .i64 2, .int .i64 1] 35)) #[.int .i64 5, .int .i64 0, .int .i64 10, .slice (some ⟨w.heap.size, 0, none⟩) 3 3, .slice (some ⟨w.heap.size + 1, 0, none⟩) 3 3, .slice (some ⟨w.heap.size + 1 + 1, 0, none⟩) 1 1] 25 i
    rw [World.size_alloc, World.size_alloc, World.size_alloc] at h
    exact h
  generalize w.heap.size + 1 + 1 + 1 = B at *
  generalize hA1 : Value.slice (some ⟨w.heap.size, 0, none⟩) 3 3 = v1 at *
  generalize hA2 : Value.slice (some ⟨w.heap.size + 1, 0, none⟩) 3 3 = v2 at *
  generalize hA3 : Value.slice (some ⟨w.heap.size + 1 + 1, 0, none⟩) 1 1 = v3 at *
  have c0 : W4.cell? ⟨B, 0, none⟩ = some (.int .i64 5) := hc 0
  have c1 : W4.cell? ⟨B, 1, none⟩ = some (.int .i64 0) := hc 1
  have c2 : W4.cell? ⟨B, 2, none⟩ = some (.int .i64 10) := hc 2
  have c3 : W4.cell? ⟨B, 3, none⟩ = some v1 := hc 3
  have c4 : W4.cell? ⟨B, 4, none⟩ = some v2 := hc 4
  have c5 : W4.cell? ⟨B, 5, none⟩ = some v3 := hc 5
  have hpv : PlantV W4 (.agg #[.int .i64 5, .int .i64 0, .int .i64 10, v1, v2, v3]) p0 := ⟨v1, v2, v3, rfl, s1, s2, s3⟩
  have HP := hid hpv
  have HB := hid hb4
  clear hW4 hb4 s1 s2 s3 hc hA1 hA2 hA3 hpv
  go_wp2_with fail
  refine (cool_any _ p0 W4 HP.out (HT.out.below' HB.out)).mono ?_
  rintro e W5 ⟨l1, rfl, hl1, hb5⟩
  rw [p0_coolC, p0_coolE]
  rw [p0_coolL] at hl1
  have d0 := bcs hb5 c0
  have d1 := bcs hb5 c1
  have d2 := bcs hb5 c2
  have d3 := bcs hb5 c3
  have d4 := bcs hb5 c4
  have d5 := bcs hb5 c5
  have HP5 := hid (HP.out.below hb5)
  have HL1 := hid hl1
  have HB5 := hid (HB.out.trans (hb5.mono HB.out.size))
  clear c0 c1 c2 c3 c4 c5 hb5 hl1 HP HB
  go_wp2_with fail
  refine (heats_any _ _ p0 [1, 0, 1] _ (HP5.out.below ((Below.refl _ _).alloc (Nat.le_refl _) _)) (new_SlI _ _ _ _ _ rfl rfl (by simp))).mono ?_
  rintro e W6 ⟨l2, rfl, hl2, hb6⟩
  rw [p0_heats] at hl2
  rw [p0_sched, show errOf true = 0 from rfl]
  have hb6' := bal hb6
  have HL2 := hid hl2
  have HL1 := hid (HL1.out.below hb6')
  have HB6 := hid (HB5.out.trans (hb6'.mono HB5.out.size))
  clear d0 d1 d2 d3 d4 d5 hb6 hb6' hl2 HP5 HB5
  go_wp2_with fail
  refine (plan_any _ j3 1 _ (new_SlV _ _ _ _ _ _ rfl (by decide)) j3_small).mono ?_
  rintro e W7 ⟨⟨l3, rfl, hl3⟩, hb7⟩
  rw [j3_plan] at hl3 ⊢
  have hb7' := bal hb7
  have HL3 := hid hl3
  have HL1 := hid (HL1.out.below hb7')
  have HL2 := hid (HL2.out.below hb7')
  have HB7 := hid (HB6.out.trans (hb7'.mono HB6.out.size))
  clear hb7 hb7' hl3 HB6
  go_wp2_with fail
  refine (plan_any _ j2 1 _ (new_SlV _ _ _ _ _ _ rfl (by decide)) j2_small).mono ?_
  rintro e W8 ⟨⟨l4, rfl, hl4⟩, hb8⟩
  rw [j2_plan]
  have hb8' := bal hb8
  have HL1 := hid (HL1.out.below hb8')
  have HL2 := hid (HL2.out.below hb8')
  have HL3 := hid (HL3.out.below hb8')
  have HB8 := hid (HB7.out.trans (hb8'.mono HB7.out.size))
  clear hb8 hb8' hl4 HB7
  go_wp2_with fail
  refine (crowd_any _ j2 1 _ (new_SlV _ _ _ _ _ _ rfl (by decide)) j2_small).mono ?_
  rintro e W9 ⟨⟨r, rfl, hr⟩, hb9⟩
  rw [j2_asked] at hr
  obtain rfl : r = (0, 1, 0) := by
    rcases hr with ⟨_, hr⟩ | ⟨hr, _⟩
    · exact j2_crowd hr
    · exact absurd rfl hr
  have hb9' := bal hb9
  have HL1 := hid (HL1.out.below hb9')
  have HL2 := hid (HL2.out.below hb9')
  have HL3 := hid (HL3.out.below hb9')
  have HB9 := hid (HB8.out.trans (hb9'.mono HB8.out.size))
  clear hb9 hb9' hr HB8
  go_wp2_with fail
  refine (match_any _ m4 _ (new_SlV _ _ _ _ _ _ rfl (by decide)) (HT.out.below' (HB9.out.alloc HB9.out.size _))).mono ?_
  rintro e W10 ⟨⟨l5, rfl, hl5⟩, hb10⟩
  rw [m4_match] at hl5 ⊢
  have hb10' := bal hb10
  have HL5 := hid hl5
  have HL1 := hid (HL1.out.below hb10')
  have HL2 := hid (HL2.out.below hb10')
  have HL3 := hid (HL3.out.below hb10')
  have HB10 := hid (HB9.out.trans (hb10'.mono HB9.out.size))
  clear hb10 hb10' hl5 HB9
  go_wp2_with fail
  refine (next_any 2 _ [[0, 1]] _ ⟨[.slice (some ⟨W10.heap.size, 0, none⟩) 2 2], rfl, ?_, ?_⟩ (HT.out.below' ((HB10.out.alloc HB10.out.size _).alloc (by have := HB10.out.size; simp; omega) _))).mono ?_
  · have h := new_SlV (W10.alloc (.cells #[.int .i64 0, .int .i64 1] 3)) #[.slice (some ⟨W10.heap.size, 0, none⟩) 2 2] 22 1 1 _ rfl (by simp)
    rw [World.size_alloc] at h
    exact h
  · intro j h h'
    obtain rfl : j = 0 := by simp at h; omega
    exact (new_SlI W10 _ 2 2 [0, 1] rfl rfl (by simp)).below ((Below.refl _ _).alloc (Nat.le_refl _) _)
  rintro e W11 ⟨⟨l6, rfl, hl6⟩, hb11⟩
  rw [r1_next] at hl6 ⊢
  have hb11' := bal (bal hb11)
  have HL6 := hid hl6
  have HL1 := hid (HL1.out.below hb11')
  have HL2 := hid (HL2.out.below hb11')
  have HL3 := hid (HL3.out.below hb11')
  have HL5 := hid (HL5.out.below hb11')
  have HB11 := hid (HB10.out.trans (hb11'.mono HB10.out.size))
  clear hb11 hb11' hl6 HB10
  go_wp2_with fail
  refine (ints_any _ _ _ [1, 0, 1] _ (HL1.out.below ((Below.refl _ _).alloc (Nat.le_refl _) _)) (new_SlI _ _ _ _ _ rfl rfl (by simp))).mono ?_
  rintro e W12 ⟨rfl, hb12⟩
  rw [same_refl]
  have hb12' := bal hb12
  have HL2 := hid (HL2.out.below hb12')
  have HL3 := hid (HL3.out.below hb12')
  have HL5 := hid (HL5.out.below hb12')
  have HL6 := hid (HL6.out.below hb12')
  have HB12 := hid (HB11.out.trans (hb12'.mono HB11.out.size))
  clear hb12 hb12' HB11
  go_wp2_with fail
  refine (ints_any _ _ _ [3, 7, 5] _ (HL2.out.below ((Below.refl _ _).alloc (Nat.le_refl _) _)) (new_SlI _ _ _ _ _ rfl rfl (by simp))).mono ?_
  rintro e W13 ⟨rfl, hb13⟩
  rw [same_refl]
  have hb13' := bal hb13
  have HL3 := hid (HL3.out.below hb13')
  have HL5 := hid (HL5.out.below hb13')
  have HL6 := hid (HL6.out.below hb13')
  have HB13 := hid (HB12.out.trans (hb13'.mono HB12.out.size))
  clear hb13 hb13' HB12
  go_wp2_with fail
  refine (ints_any _ _ _ [2, 0, 1] _ (HL3.out.below ((Below.refl _ _).alloc (Nat.le_refl _) _)) (new_SlI _ _ _ _ _ rfl rfl (by simp))).mono ?_
  rintro e W14 ⟨rfl, hb14⟩
  rw [same_refl]
  have hb14' := bal hb14
  have HL5 := hid (HL5.out.below hb14')
  have HL6 := hid (HL6.out.below hb14')
  have HB14 := hid (HB13.out.trans (hb14'.mono HB13.out.size))
  clear hb14 hb14' HB13
  go_wp2_with fail
  refine (samePairs_below _ _ [(0, 3), (1, 2)] [(0, 3), (1, 2)] _ (HL5.out.below ((Below.refl _ _).alloc (Nat.le_refl _) _)) (new_SlV _ _ _ _ _ _ rfl (by decide))).mono ?_
  rintro e W15 ⟨rfl, hb15⟩
  rw [beq_self_eq_true]
  have hb15' := bal hb15
  have HL6 := hid (HL6.out.below hb15')
  have HB15 := hid (HB14.out.trans (hb15'.mono HB14.out.size))
  clear hb15 hb15' HB14
  go_wp2_with fail
  refine (ints_any _ _ _ [1, 0] _ (HL6.out.below ((Below.refl _ _).alloc (Nat.le_refl _) _)) (new_SlI _ _ _ _ _ rfl rfl (by simp))).mono ?_
  rintro e W16 ⟨rfl, hb16⟩
  rw [same_refl]
  have hb16' := bal hb16
  have HB16 := hid (HB15.out.trans (hb16'.mono HB15.out.size))
  clear hb16 hb16'
  go_wp2_with fail
  go_ret
  exact ⟨rfl, HB16.out⟩
end Go.Proofs.YtjjphiecjhijiaaDoor
