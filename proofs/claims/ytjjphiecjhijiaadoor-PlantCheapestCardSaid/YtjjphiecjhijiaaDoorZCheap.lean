/-
  PROVED: besomlaw12.PlantCheapest returns true for every plant, bytes, two numbers, machine and number: Cool's schedule is possible and costs what it says, no other possible schedule costs less, and an easier plant costs no more (at most 24 hours, 3 machines and a band of 300: the law's own guard; the tables of math/bits as the program's text lays them).
-/
import Derived.Test.YtjjphiecjhijiaaDoorF1
import Derived.Test.YtjjphiecjhijiaaDoorX2
/- The middle of besomlaw12.PlantCheapest: an easier plant is built. -/
namespace Go.Proofs.YtjjphiecjhijiaaDoor
open Go.RowKit Go.Maps
attribute [local go_sem] alloc_drewN setCell_drewN
noncomputable def tailCode : Code := ((Tryd.f4.body.bind (fromReg 35)).getD .skip)

set_option maxRecDepth 1000000 in
set_option maxHeartbeats 2000000 in
theorem cheap_tail (p : PlantD) (d0 d1 : Int) (mo : Mach) (hi4 C : Int) (w w9 : World) (B0 B1 B2 Q0 : Nat) (al ap am : Option Addr) (cl cp cm : Nat) (hp : PlantV w (.agg #[.int .i64 p.heat, .int .i64 p.low, .int .i64 p.high, .slice al p.loads.length cl, .slice ap p.prices.length cp, .slice am p.machines.length cm]) p)
    (hB : Below w.heap.size w w9) (hT : TabW w9) (h01 : w.heap.size ≤ B0) (h02 : B0 < Q0) (h03 : B1 < Q0) (h04 : B2 < Q0) (hQ : Q0 < w9.heap.size)
    (hbx : BoxP w9 B0 p.heat p.low p.high (.slice al p.loads.length cl) (.slice ap p.prices.length cp) (.slice am p.machines.length cm)) (hb2 : Box2 w9 B1 d0 d1) (hbm : BoxM w9 B2 mo)
    (h00 : 1 < w.heap.size) (hbq : BoxP w9 Q0 p.heat p.low p.high (.slice al p.loads.length cl) (.slice ap p.prices.length cp) (.slice am p.machines.length cm)) (hfq : FrzB w9 Q0)
    (hok : p.ok = true) (hm3 : p.machines.length ≤ 3) (hw300 : p.high ≤ p.low + 300) (hcb : p.coolB.isSome = true) (hC : p.coolC = C) (s0 s1 s2 s3 s6 s9 s10 s11 s13 s14 s15 s16 s17 s18 s19 s20 s21 s22 s23 s25 s26 s27 s28 s29 s30 s31 s32 s33 s34 s35 s36 s37 s38 s39 s40 s41 s42 s43 s44 s45 s46 s47 s48 s49 s50 s51 s52 s53 s54 s55 s56 s57 s58 s59 s60 s61 s62 s63 s64 s65 s66 s67 s68 s69 s70 s71 s72 s73 s74 s75 s76 s77 s78 s79 s80 s81 s82 s83 s84 s85 s86 s87 s88 s89 s90 s91 s92 s93 s94 s95 s96 s97 s98 s99 s100 s101 s102 s103 s104 s105 s106 s107 s108 s109 s110 s111 s112 s113 s114 s115 s116 s117 s118 s119 s120 s121 s122 s123 s124 s125 s126 s127 s128 s129 s130 s131 s132 s133 s134 s135 s136 s137 s138 s139 s140 s141 s142 s143 s144 s145 s146 s147 s148 s149 s150 s151 s152 s153 s154 s155 s156 s157 s158 s159 s160 s161 s162 s163 s164 s165 s166 s167 s168 s169 s170 s171 s172 s173 s174 s175 s176 s177 s178 s179 s180 s181 s182 s183 s184 s185 s186 s187 s188 s189 s190 s191 s192 s193 s194 s195 s196 s197 s198 s199 s200 s201 s202 s203 s204 s205 s206 s207 s208 s209 s210 s211 s212 s213 s214 s215 s216 s217 s218 s219 s220 s221 s222 s223 s224 s225 s226 s227 s228 : Value) :
    Code.wp Tryd.prog tailCode (bodyPost Tryd.prog Tryd.f4 (True1 w)) ⟨#[s0, s1, s2, s3, .int .i64 hi4, .pointer (some ⟨B0, 0, none⟩), s6, .pointer (some ⟨B1, 0, none⟩), .pointer (some ⟨B2, 0, none⟩), s9, s10, s11, .int .i64 C, s13, s14, s15, s16, s17, s18, s19, s20, s21, s22, s23, .pointer (some ⟨Q0, 0, none⟩), s25, s26, s27, s28, s29, s30, s31, s32, s33, s34, s35, s36, s37, s38, s39, s40, s41, s42, s43, s44, s45, s46, s47, s48, s49, s50, s51, s52, s53, s54, s55, s56, s57, s58, s59, s60, s61, s62, s63, s64, s65, s66, s67, s68, s69, s70, s71, s72, s73, s74, s75, s76, s77, s78, s79, s80, s81, s82, s83, s84, s85, s86, s87, s88, s89, s90, s91, s92, s93, s94, s95, s96, s97, s98, s99, s100, s101, s102, s103, s104, s105, s106, s107, s108, s109, s110, s111, s112, s113, s114, s115, s116, s117, s118, s119, s120, s121, s122, s123, s124, s125, s126, s127, s128, s129, s130, s131, s132, s133, s134, s135, s136, s137, s138, s139, s140, s141, s142, s143, s144, s145, s146, s147, s148, s149, s150, s151, s152, s153, s154, s155, s156, s157, s158, s159, s160, s161, s162, s163, s164, s165, s166, s167, s168, s169, s170, s171, s172, s173, s174, s175, s176, s177, s178, s179, s180, s181, s182, s183, s184, s185, s186, s187, s188, s189, s190, s191, s192, s193, s194, s195, s196, s197, s198, s199, s200, s201, s202, s203, s204, s205, s206, s207, s208, s209, s210, s211, s212, s213, s214, s215, s216, s217, s218, s219, s220, s221, s222, s223, s224, s225, s226, s227, s228], []⟩ w9 := by
  have ho := ok_Ok hok
  have hlo1 := ho.low1
  have hlo2 := ho.low2
  have hhi1 := ho.high1
  have hhi2 := ho.high2
  have hday := ho.day
  have hpl : p.prices.length ≤ 48 := by have := ho.len; omega
  have HP := hid hp
  have HB := hid hB
  have HT := hid hT
  have HBX := hid hbx
  have HB2 := hid hb2
  have HBM := hid hbm
  have HBQ := hid hbq
  have HFQ := hid hfq
  have HOK := hid hok
  have HCB := hid hcb
  have HC := hid hC
  obtain ⟨vl, vp, vm, ev, hL, hPr, hM⟩ := hp
  obtain ⟨rfl, rfl, rfl⟩ : vl = .slice al p.loads.length cl ∧ vp = .slice ap p.prices.length cp ∧ vm = .slice am p.machines.length cm := by simpa using ev.symm
  have HL := hid hL
  have HPR := hid hPr
  have HM := hid hM
  obtain ⟨c0, c1, c2, c3, c4, c5⟩ := hbx
  obtain ⟨e0, e1, e2, e3, e4, e5⟩ := hbq
  have f2 := hfq 2
  clear hB hT hb2 hbm hfq hok hcb hC ev hL hPr hM
  conv => arg 2; whnf
  conv => arg 4; dsimp only
  go_upto_region 35 with fail
  go_cut [24] (fun v wx => v = .pointer (some ⟨Q0, 0, none⟩) ∧ HiQ p (.slice al p.loads.length cl) (.slice ap p.prices.length cp) (.slice am p.machines.length cm) Q0 w9 wx)
  case first =>
    go_wp2_with fail
    all_goals
      go_meet
      exact ⟨rfl, _, by omega, HBQ.out.set2 _, Below.setCell (Below.refl Q0 w9) (p := ⟨Q0, 2, none⟩) (Nat.le_refl Q0) _, HFQ.out.set _ _⟩
  case rest =>
    obtain ⟨rfl, H, hH, hbx10, hb10, hf10⟩ := hcut
    obtain ⟨w10, rfl⟩ : ∃ w10 : World, w10 = wc := ⟨_, rfl⟩
    have HX10 := hid hbx10
    have HF10 := hid hf10
    have HB10 := hid hb10
    have HBX10 := hid (HBX.out.belowQ hb10 h02)
    have HB210 := hid (HB2.out.belowQ hb10 h03)
    have HBM10 := hid (HBM.out.belowQ hb10 h04)
    have HW10 := hid (HB.out.trans (hb10.mono (by omega)))
    have HM10 := hid (HM.out.below HW10.out)
    have hz10 : w9.heap.size ≤ w10.heap.size := hb10.size
    have hq10 : Q0 < w10.heap.size := by omega
    have hz0 : B0 < w10.heap.size := by omega
    have hz1 : B1 < w10.heap.size := by omega
    have hz2 : B2 < w10.heap.size := by omega
    have f5 := hf10 5
    clear hb10 hf10 c0 c1 c2 c3 c4 c5 e0 e1 e2 e3 e4 e5 f2
    obtain ⟨c0, c1, c2, c3, c4, c5⟩ := HBX10.out
    obtain ⟨e0, e1, e2, e3, e4, e5⟩ := hbx10
    obtain ⟨m0, m1, m2⟩ := HBM10.out
    go_upto_if 188 with fail
    go_cut [24] (fun v wx => v = .pointer (some ⟨Q0, 0, none⟩) ∧ MsR p (.slice al p.loads.length cl) (.slice ap p.prices.length cp) Q0 w9 wx)
    case first =>
      by_cases hml : p.machines.length < 3
      · have hml' : decide ((p.machines.length : Int) < 3) = true := by simp; omega
        refine cheap_mid p mo w9 w10 B0 B2 Q0 al ap am cl cp cm H hH HM10 c5 m0 m1 m2 e5 f5 hz0 hz2 hq10 h02 h04 HX10 HB10 HF10 hm3 hml hml' _ _ _ _ _ _ _ _ _ _ _ _ _ _ _ _ _ _ _ _ _ _ _ _ _ _ _ _ _ _ _ _ _ _ _ _ _ _ _ _ _ _ _ _ _ _ _ _ _ _ _ _ _ _ _ _ _ _ _ _ _ _ _ _ _ _ _ _ _ _ _ _ _ _ _ _ _ _ _ _ _ _ _ _ _ _ _ _ _ _ _ _ _ _ _ _ _ _ _ _ _ _ _ _ _ _ _ _ _ _ _ _ _ _ _ _ _ _ _ _ _ _ _ _ _ _ _ _ _ _ _ _ _ _ _ _ _ _ _ _ _ _ _ _ _ _ _ _ _ _ _ _ _ _ _ _ _ _ _ _ _ _ _ _ _ _ _ _ _ _ _ _ _ _ _ _ _ _ _ _ _ _ _ _ _ _ _ _ _ _ _ _ _ _ _ _ _ _ _ _ _ _ _ _ _ _ _ _ _ _ _ _ _ _ _ _ _ _ _ _ _ _ _ _ _ _ _ ?_
        intro v189 v190 v191 v192 v193 v194 v195 v196 w' hms
        refine ‹∀ (a' : Act) (w' : World), Met _ a' w' → _› _ _ ?_
        go_meet
        exact ⟨rfl, hms⟩
      · have hml' : decide ((p.machines.length : Int) < 3) = false := by simp; omega
        go_wp2_with fail
        go_meet
        exact ⟨rfl, H, _, p.machines, hH, HM10.out, ⟨[], by simp⟩, HX10.out, HB10.out, HF10.out, HM.out.own_lt.imp id (fun h q hq => by have := h q hq; omega)⟩
    case rest =>
      obtain ⟨rfl, hms⟩ := hcut
      refine ‹∀ (a : Act) (w_1 : World), Code.wp Tryd.prog _ (bodyPost Tryd.prog Tryd.f4 (True1 w)) a w_1 → _› _ _ ?_
      exact cheap_tail2 p d0 d1 C w w9 wc B0 B1 Q0 al ap am cl cp cm HL.out HPR.out HB.out HT.out h01 h02 h03 hQ HBX.out HB2.out h00 HOK.out HCB.out HC.out hms _ _ _ _ _ _ _ _ _ _ _ _ _ _ _ _ _ _ _ _ _ _ _ _ _ _ _ _ _ _ _ _ _ _ _ _ _ _ _ _ _ _ _ _ _ _ _ _ _ _ _ _ _ _ _ _ _ _ _ _ _ _ _ _ _ _ _ _ _ _ _ _ _ _ _ _ _ _ _ _ _ _ _ _ _ _ _ _ _ _ _ _ _ _ _ _ _ _ _ _ _ _ _ _ _ _ _ _ _ _ _ _ _ _ _ _ _ _ _ _ _ _ _ _ _ _ _ _ _ _ _ _ _ _ _ _ _ _ _ _ _ _ _ _ _ _ _ _ _ _ _ _ _ _ _ _ _ _ _ _ _ _ _ _ _ _ _ _ _ _ _ _ _ _ _ _ _ _ _ _ _ _ _ _ _ _ _ _ _ _ _ _ _ _ _ _ _ _ _ _ _ _ _ _ _ _ _ _ _ _ _ _ _ _ _ _ _ _ _ _ _ _ _ _ _
end Go.Proofs.YtjjphiecjhijiaaDoor
/- besomlaw12.PlantCheapest returns true. -/
namespace Go.Proofs.YtjjphiecjhijiaaDoor
open Go.RowKit Go.Maps
attribute [local go_sem] alloc_drewN setCell_drewN

set_option maxRecDepth 100000 in
set_option maxHeartbeats 2000000 in
/-- besomlaw12.PlantCheapest returns true. -/
theorem cheapest_any (v u : Value) (p : PlantD) (bl : List Int) (d0 d1 : Int) (mo : Mach) (hi4 : Int) (w : World) (hp : PlantV w v p) (hb : SlB w u bl) (hT : TabW w) : Calls Tryd.prog 4 #[v, u, .agg #[.int .i64 d0, .int .i64 d1], .agg #[.int .i64 mo.cold, .int .i64 mo.power, .int .i64 mo.start], .int .i64 hi4] w (True1 w) := by
  have HP := hid hp
  have HBY := hid hb
  have HT := hid hT
  obtain ⟨vl, vp, vm, rfl, hL, hPr, hM⟩ := hp
  obtain ⟨ab, capb, rfl, hlb, -⟩ := hb.open
  obtain ⟨al, cl, rfl, hll, -⟩ := hL.open
  obtain ⟨ap, cp, rfl, hlp, -⟩ := hPr.open
  obtain ⟨am, cm, rfl, hlm, -⟩ := hM.open
  have HL := hid hL
  have HPR := hid hPr
  have HMM := hid hM
  have HLA := hid (show p.large = (((decide ((p.loads.length : Int) > 24) || decide ((p.prices.length : Int) > 24)) || decide ((p.machines.length : Int) > 3)) || decide (wrap64 (p.high - p.low) > 300)) from rfl)
  clear hL hPr hM hb hT
  go_enter Tryd.func4, Tryd.ntmps4
  go_upto_region 1 with fail
  obtain ⟨W0, e0, hb0, hbx, hb2, hbm⟩ := boxes_cheap w p.heat p.low p.high (.slice al p.loads.length cl) (.slice ap p.prices.length cp) (.slice am p.machines.length cm) d0 d1 mo
  rw [e0]
  have hz0 : W0.heap.size = w.heap.size + 1 + 1 + 1 := by rw [← e0]; simp
  have HZ0 := hid hz0
  have HBX := hid hbx
  have HB2 := hid hb2
  have HBM := hid hbm
  have HB0 := hid hb0
  obtain ⟨c0, c1, c2, c3, c4, c5⟩ := hbx
  clear e0 hb2 hbm hb0 hz0
  go_cut [51] (fun x wx => x = .bool p.large ∧ wx = W0)
  case first =>
    generalize hb1 : decide ((p.loads.length : Int) > 24) = b1 at *
    generalize hb2 : decide ((p.prices.length : Int) > 24) = b2 at *
    generalize hb3 : decide ((p.machines.length : Int) > 3) = b3 at *
    generalize hb4 : decide (wrap64 (p.high - p.low) > 300) = b4 at *
    cases b1 <;> cases b2 <;> cases b3
    all_goals
      go_wp2_with fail
      go_meet
      exact ⟨by rw [HLA.out]; simp, rfl⟩
  case rest =>
    obtain ⟨rfl, rfl⟩ := hcut
    cases hla : p.large with
    | true =>
      rw [hla] at *
      clear hla HLA c0 c1 c2 c3 c4 c5
      go_wp2_with fail
      refine (awake_any _ (HT.out.below' HB0.out)).mono ?_
      rintro e W2 ⟨rfl, hb2⟩
      have HBB := hid (HB0.out.trans (hb2.mono HB0.out.size))
      clear hb2
      go_wp2_with fail
      go_ret
      exact ⟨rfl, HBB.out⟩
    | false =>
      have hsm : p.loads.length ≤ 24 ∧ p.machines.length ≤ 3 ∧ wrap64 (p.high - p.low) ≤ 300 := by
        have h := HLA.out
        rw [hla] at h
        have h := h.symm
        simp only [Bool.or_eq_false_iff, decide_eq_false_iff_not] at h
        omega
      obtain ⟨hl24, hm3, hw300⟩ := hsm
      have HW3 := hid hw300
      clear hla HLA hw300
      go_wp2_with fail
      refine (cool_any _ p wc (HP.out.below HB0.out) (HT.out.below' HB0.out)).mono ?_
      rintro e W1 ⟨l1, rfl, hl1, hb1⟩
      have HL1 := hid hl1
      have HBX1 := hid (HBX.out.below hb1)
      have HB21 := hid (HB2.out.below hb1)
      have HBM1 := hid (HBM.out.below hb1)
      have HB1 := hid (HB0.out.trans (hb1.mono HB0.out.size))
      have hzz : w.heap.size + 1 + 1 + 1 ≤ W1.heap.size := by have := hb1.size; have := HZ0.out; omega
      clear hl1 hb1 c0 c1 c2 c3 c4 c5
      obtain ⟨c0, c1, c2, c3, c4, c5⟩ := HBX1.out
      have HCE := hid (show p.coolE = if p.ok then (if p.coolB.isSome then 0 else 7) else 2 from rfl)
      cases hok : p.ok with
      | false =>
        have hce : p.coolE = 2 := by rw [HCE.out, hok]; rfl
        have HRC := hid (refCheck_any _ p W1 (HP.out.below HB1.out))
        rw [hok] at HRC
        rw [hce]
        clear hce hok HCE
        go_wp2_with fail
        refine HRC.out.mono ?_
        rintro e W2 ⟨rfl, hb2⟩
        have HBB := hid (HB1.out.trans (hb2.mono HB1.out.size))
        clear hb2
        go_wp2_with fail
        refine (awake_any _ (HT.out.below' HBB.out)).mono ?_
        rintro e W3 ⟨rfl, hb3⟩
        have HBC := hid (HBB.out.trans (hb3.mono HBB.out.size))
        clear hb3
        go_wp2_with fail
        go_ret
        exact ⟨rfl, HBC.out⟩
      | true =>
        have HOK := hid hok
        have ho := ok_Ok hok
        obtain ⟨i0, hi, hz0, hz1, hz2⟩ := info_parts info3
        obtain ⟨E, hE, hE2⟩ : ∃ E, p.coolE = E ∧ (E == 2) = false := by
          refine ⟨_, rfl, ?_⟩
          rw [HCE.out, hok]
          cases p.coolB.isSome <;> rfl
        have HE := hid hE
        rw [hE]
        clear hok hE
        go_wp2_with fail
        go_loopw [14, 15] (fun o i wr => ∃ (k : Nat) (l : List Int), k ≤ p.loads.length ∧ l.length = k ∧ (∀ x ∈ l, 0 ≤ x ∧ x < (2 : Int) ^ p.m) ∧ i = .int .i64 k ∧ wr.ownsRow W1.heap.size 3 1 o k (l.map (.int .i64)) ∧ Below W1.heap.size W1 wr) (fun _ i _ => p.loads.length - (intOf i).toNat)
        case atStart => exact ⟨0, [], Nat.zero_le _, rfl, by simp, rfl, World.ownsRow_nil _ _ _ _, Below.refl _ _⟩
        case round =>
          obtain ⟨k, l, hk, hlk, hx, rfl, hown, hbr⟩ := hrel
          obtain ⟨w2, rfl⟩ : ∃ w2 : World, w2 = wr := ⟨_, rfl⟩
          have HLK := hid hlk
          have HX := hid hx
          have HOW := hid hown
          have HBW := hid hbr
          have HBX2 := hid (HBX1.out.below hbr)
          clear hlk hx hown hbr c0 c1 c2 c3 c4 c5
          obtain ⟨c0, c1, c2, c3, c4, c5⟩ := HBX2.out
          by_cases hkl : k < p.loads.length
          · --BEGIN b
            go_upto_if 76 with fail
            go_cut [16] (fun v wx => ByteV v ∧ wx = w2)
            case first =>
              by_cases hbp : 0 < bl.length
              · have hbp' : decide (0 < bl.length) = true := by simp [hbp]
                obtain ⟨m, hm⟩ : ∃ m, m = k % bl.length := ⟨_, rfl⟩
                have hml : m < bl.length := by rw [hm]; exact Nat.mod_lt _ hbp
                have hidx : (k : Int) % (bl.length : Int) = (m : Int) := by rw [hm]; rfl
                obtain ⟨ab2, capb2, eb, -, hbc⟩ := (HBY.out.below (HB1.out.trans (HBW.out.mono HB1.out.size))).open
                obtain ⟨bb, ob, rfl, hbbl, xb, xb0, xb1⟩ := hbc m hml
                obtain ⟨e1, -, -⟩ := Value.slice.inj eb
                subst e1
                clear hm hbc eb c0 c1 c2 c3 c4 c5
                generalize bl[m] = x at *
                have hbp2 : (1 : Int) ≤ (bl.length : Int) := by omega
                go_wp2_with fail
                go_meet
                exact ⟨⟨x, xb0, xb1, rfl⟩, rfl⟩
              · have hbp' : decide (0 < bl.length) = false := decide_eq_false hbp
                go_wp2_with fail
                go_meet
                exact ⟨⟨0, by omega, by omega, rfl⟩, rfl⟩
            case rest =>
              obtain ⟨⟨x, hx0, hx1, rfl⟩, rfl⟩ := hcut
              obtain ⟨m, hm⟩ : ∃ m, p.machines.length = m := ⟨_, rfl⟩
              have hpm : p.m = m := hm
              rw [hm] at c5 hm3
              have HPM := hid hpm
              clear hm hpm
              rcases (by omega : m = 0 ∨ m = 1 ∨ m = 2 ∨ m = 3) with rfl | rfl | rfl | rfl
              all_goals
                go_wp2_with (at_builtin; refine wpList_append_lies _ rfl _ _ 22 rfl W1.heap.size 3 i0 (.int .i64 0) 1 8 Tryd.underlying22 hi hz0 hz1 hz2 rfl (by omega) _ k _ rfl (HOW.out.alloc _) ⟨wc.heap.size, 0, none⟩ 1 1 [.int .i64 _] rfl rfl (cell_one_new _ _ _) (ones _ rfl) (by omega) (by unfold maxLen; omega) (by omega) (by have := HBW.out.size; simp; omega) (wc.heap.size + 1) (by simp) ?_; intro g6 cap6 w6 hown6 hgrow6 hat6 hlt6)
                have hb6 : Below W1.heap.size W1 w6 := (HBW.out.alloc HBW.out.size _).grown hgrow6 (by have := HBW.out.size; simp; omega) (fun q hq => (HOW.out.lt q hq).1)
                refine ⟨⟨k + 1, l ++ [_], by omega, by simp [HLK.out], ?_, by go_num, by rw [List.map_append]; exact hown6, hb6⟩, by simp [intOf]; omega⟩
                intro y hy
                rcases List.mem_append.1 hy with hy | hy
                · exact HX.out y hy
                · rw [HPM.out]
                  simp at hy
                  subst hy
                  simp <;> omega
            --END b
          · obtain rfl : k = p.loads.length := by omega
            obtain ⟨ado, capo, rfl⟩ := own_form HOW.out
            have hs : p.sched l = true := own_sched HOK.out HLK.out HX.out
            have HSC := hid hs
            have HSO := hid (show SlI w2 (.slice ado p.loads.length capo) l from own_SlI HOW.out (by have := HLK.out; omega))
            have HB20 := hid (HB1.out.trans (HBW.out.mono HB1.out.size))
            have HCL := hid (show p.sched l = true → p.fits l → p.coolB.isSome = true ∧ p.coolC ≤ p.costAt l p.loads.length from cool_least)
            have HHE := hid (refHeats_any _ _ p l w2 (HP.out.below HB20.out) HSO.out)
            rw [hs, show p.heatsR l = p.heats l p.loads.length by unfold PlantD.heatsR; rw [if_pos hs, HLK.out]] at HHE
            have HCR := hid (show p.costR l = p.costAt l p.loads.length by unfold PlantD.costR; rw [if_pos hs, HLK.out])
            have HCD := hid (costAt_bd ho l p.loads.length)
            have HHL := hid (heats_length p l p.loads.length)
            clear hs
            go_wp2_with fail
            refine HHE.out.mono ?_
            rintro e w3 ⟨v3, rfl, hs3, hb3⟩
            obtain ⟨a3, cp3, rfl, hc3⟩ := heats_open hs3
            rw [show errOf true = 0 from rfl]
            have HC3 := hid hc3
            have HBX3 := hid (HBX2.out.below hb3)
            have HB30 := hid (HB20.out.trans (hb3.mono HB20.out.size))
            have HSO3 := hid (HSO.out.below hb3)
            have HL3 := hid (HL1.out.below (HBW.out.trans (hb3.mono HBW.out.size)))
            have HBW3 := hid (HBW.out.trans (hb3.mono HBW.out.size))
            clear hs3 hb3 hc3 c0 c1 c2 c3 c4 c5
            obtain ⟨c0, c1, c2, c3, c4, c5⟩ := HBX3.out
            have HCO := hid (refCost_any _ _ p l w3 (HP.out.below HB30.out) HSO3.out)
            rw [HSC.out, HCR.out, show errOf true = 0 from rfl] at HCO
            obtain ⟨hcd0, hcd1⟩ := HCD.out
            generalize p.costAt l p.loads.length = pr at *
            go_wp2_with fail
            refine HCO.out.mono ?_
            rintro e w4 ⟨rfl, hb4⟩
            have HC4 := hid (fun k (hk : k < p.loads.length) => show ∃ b off, a3 = some ⟨b, off, none⟩ ∧ b < w4.heap.size ∧ ∀ j, j < p.loads.length → w4.cell? ⟨b, off + j, none⟩ = some (.int .i64 (p.heatAt l (j + 1))) from by
              obtain ⟨b, off, ea, hb, hx⟩ := HC3.out k hk
              exact ⟨b, off, ea, Nat.lt_of_lt_of_le hb hb4.size, fun j hj => rdB hb4 hb (hx j hj)⟩)
            have HBX4 := hid (HBX3.out.below hb4)
            have HB40 := hid (HB30.out.trans (hb4.mono HB30.out.size))
            have HL4 := hid (HL3.out.below hb4)
            have HBW4 := hid (HBW3.out.trans (hb4.mono HBW3.out.size))
            clear hb4 c0 c1 c2 c3 c4 c5 HCO HHE
            obtain ⟨c0, c1, c2, c3, c4, c5⟩ := HBX4.out
            go_wp2_with fail
            go_loopw [21, 22] (fun o i wr => ∃ k : Nat, k ≤ p.loads.length ∧ i = .int .i64 k ∧ o = .bool (okHeats p l k) ∧ ∃ d, wr = w4.drewN d) (fun _ i _ => p.loads.length - (intOf i).toNat)
            case atStart => exact ⟨0, Nat.zero_le _, rfl, rfl, 0, rfl⟩
            case round =>
              obtain ⟨k, hk, rfl, rfl, d, rfl⟩ := hrel
              by_cases hkl : k < p.loads.length
              · --BEGIN c
                obtain ⟨b, off, rfl, hbl, hx⟩ := HC4.out k hkl
                have x0 := hx k hkl
                have HSU := hid (okHeats_succ p l k)
                clear hx c0 c1 c3 c4 c5
                generalize p.heatAt l (k + 1) = ht at *
                cases hoh : okHeats p l k with
                | true =>
                  obtain ⟨q, hq⟩ : ∃ q, decide (ht ≤ p.high) = q := ⟨_, rfl⟩
                  rw [hoh, hq] at HSU
                  go_wp2_with fail
                  go_quiet (fail)
                  go_wp2_with fail
                  refine ⟨⟨k + 1, by omega, by go_num, by rw [HSU.out]; rfl, _, rfl⟩, by simp [intOf]; omega⟩
                | false =>
                  rw [hoh] at HSU
                  go_wp2_with fail
                  go_quiet (fail)
                  go_wp2_with fail
                  refine ⟨⟨k + 1, by omega, by go_num, by rw [HSU.out]; rfl, _, rfl⟩, by simp [intOf]; omega⟩
                --END c
              · obtain rfl : k = p.loads.length := by omega
                obtain ⟨w5, hw5⟩ : ∃ w5, w4.drewN d = w5 := ⟨_, rfl⟩
                have HBX5 := hid (show BoxP w5 w.heap.size p.heat p.low p.high (.slice al p.loads.length cl) (.slice ap p.prices.length cp) (.slice am p.machines.length cm) by rw [← hw5]; exact HBX4.out.below (drewNB (Below.refl _ _) d))
                have HB50 := hid (show Below w.heap.size w w5 by rw [← hw5]; exact drewNB HB40.out d)
                have HL5 := hid (show SlI w5 l1 p.coolL by rw [← hw5]; exact HL4.out.drewN d)
                have HBW5 := hid (show Below W1.heap.size W1 w5 by rw [← hw5]; exact drewNB HBW4.out d)
                rw [hw5]
                clear hw5 HC4 HC3 c0 c1 c2 c3 c4 c5
                obtain ⟨c0, c1, c2, c3, c4, c5⟩ := HBX5.out
                have HFI := hid (fun h => okHeats_fits (p := p) (l := l) h)
                generalize okHeats p l p.loads.length = ok at *
                have HCE2 := hid (show E = if p.coolB.isSome then 0 else 7 by rw [← HE.out, HCE.out, HOK.out]; rfl)
                have HOWN := hid (fun h => cool_own HOK.out h)
                cases hcb : p.coolB.isSome with
                | false =>
                  have hE7 : E = 7 := by rw [HCE2.out, hcb]; rfl
                  have hok0 : ok = false := by
                    cases ok with
                    | false => rfl
                    | true =>
                      have := (HCL.out HSC.out (HFI.out rfl)).1
                      rw [hcb] at this; cases this
                  subst hE7 hok0
                  clear hcb
                  go_wp2_with fail
                  refine (awake_any _ (HT.out.below' HB50.out)).mono ?_
                  rintro e W6 ⟨rfl, hb6⟩
                  have HB6 := hid (HB50.out.trans (hb6.mono HB50.out.size))
                  clear hb6
                  go_wp2_with fail
                  go_ret
                  exact ⟨rfl, HB6.out⟩
                | true =>
                  have hE0 : E = 0 := by rw [HCE2.out, hcb]; rfl
                  subst hE0
                  have HCB := hid hcb
                  clear hcb
                  have hlt : ok = true → decide (pr < p.coolC) = false := by
                    intro h
                    have := (HCL.out HSC.out (HFI.out h)).2
                    simp; omega
                  obtain ⟨hw1, hw2, hw3, hw4⟩ := HOWN.out HCB.out
                  have HW1 := hid hw1
                  have HW2 := hid hw2
                  have HW3L := hid hw3
                  have HW4 := hid hw4
                  have HLT := hid hlt
                  have HHE2 := hid (refHeats_any _ _ p p.coolL w5 (HP.out.below HB50.out) HL5.out)
                  rw [hw1, show p.heatsR p.coolL = p.heats p.coolL p.loads.length by unfold PlantD.heatsR; rw [if_pos hw1, hw4]] at HHE2
                  have HCR2 := hid (show p.costR p.coolL = p.coolC by unfold PlantD.costR; rw [if_pos hw1, hw4, hw3])
                  clear hw1 hw2 hw3 hw4 hlt
                  go_upto_region 23 with fail
                  go_cut [140] (fun v wx => v = .bool false ∧ wx = w5)
                  case first =>
                    cases ok with
                    | true =>
                      have hd := HLT.out rfl
                      go_wp2_with fail
                      go_meet
                      exact ⟨rfl, rfl⟩
                    | false =>
                      go_wp2_with fail
                      go_meet
                      exact ⟨rfl, rfl⟩
                  case rest =>
                    obtain ⟨rfl, rfl⟩ := hcut
                    clear HLT HCL HFI
                    go_wp2_with fail
                    refine HHE2.out.mono ?_
                    rintro e w6 ⟨v6, rfl, hs6, hb6⟩
                    obtain ⟨a6, cp6, rfl, hc6⟩ := heats_open hs6
                    rw [show errOf true = 0 from rfl]
                    have HC6 := hid hc6
                    have HBX6 := hid (HBX5.out.below hb6)
                    have HB60 := hid (HB50.out.trans (hb6.mono HB50.out.size))
                    have HL6 := hid (HL5.out.below hb6)
                    have HBW6 := hid (HBW5.out.trans (hb6.mono HBW5.out.size))
                    clear hs6 hb6 hc6 c0 c1 c2 c3 c4 c5
                    obtain ⟨c0, c1, c2, c3, c4, c5⟩ := HBX6.out
                    have HCO2 := hid (refCost_any _ _ p p.coolL w6 (HP.out.below HB60.out) HL6.out)
                    rw [HW1.out, HCR2.out, show errOf true = 0 from rfl] at HCO2
                    have hcc : (p.coolC != p.coolC) = false := by simp
                    have HF3 := hid HW2.out
                    generalize hCC : p.coolC = C at *
                    have HCC := hid hCC
                    clear hCC
                    go_wp2_with fail
                    refine HCO2.out.mono ?_
                    rintro e w7 ⟨rfl, hb7⟩
                    have HC7 := hid (fun k (hk : k < p.loads.length) => show ∃ b off, a6 = some ⟨b, off, none⟩ ∧ ∀ j, j < p.loads.length → w7.cell? ⟨b, off + j, none⟩ = some (.int .i64 (p.heatAt p.coolL (j + 1))) from by
                      obtain ⟨b, off, ea, hb, hx⟩ := HC6.out k hk
                      exact ⟨b, off, ea, fun j hj => rdB hb7 hb (hx j hj)⟩)
                    have HBX7 := hid (HBX6.out.below hb7)
                    have HB70 := hid (HB60.out.trans (hb7.mono HB60.out.size))
                    have HBW7 := hid (HBW6.out.trans (hb7.mono HBW6.out.size))
                    clear hb7 c0 c1 c2 c3 c4 c5 HHE2 HCO2
                    obtain ⟨c0, c1, c2, c3, c4, c5⟩ := HBX7.out
                    go_wp2_with fail
                    go_loopw [23] (fun i wr => ∃ k : Nat, k ≤ p.loads.length ∧ i = .int .i64 k ∧ ∃ d, wr = w7.drewN d) (fun i _ => p.loads.length - (intOf i).toNat)
                    case atStart => exact ⟨0, Nat.zero_le _, rfl, 0, rfl⟩
                    case round =>
                      obtain ⟨k, hk, rfl, d, rfl⟩ := hrel
                      by_cases hkl : k < p.loads.length
                      · --BEGIN d
                        obtain ⟨b, off, rfl, hx⟩ := HC7.out k hkl
                        have x0 := hx k hkl
                        have hfk := HF3.out k hkl
                        generalize p.heatAt p.coolL (k + 1) = ht at *
                        have hq : decide (ht > p.high) = false := by simp; omega
                        clear hx c0 c1 c3 c4 c5 hfk
                        go_wp2_with fail
                        go_quiet (fail)
                        go_wp2_with fail
                        refine ⟨⟨k + 1, by omega, by go_num, _, rfl⟩, by simp [intOf]; omega⟩
                        --END d
                      · obtain rfl : k = p.loads.length := by omega
                        obtain ⟨w8, hw8⟩ : ∃ w8, w7.drewN d = w8 := ⟨_, rfl⟩
                        have HBX8 := hid (show BoxP w8 w.heap.size p.heat p.low p.high (.slice al p.loads.length cl) (.slice ap p.prices.length cp) (.slice am p.machines.length cm) by rw [← hw8]; exact HBX7.out.below (drewNB (Below.refl _ _) d))
                        have HB80 := hid (show Below w.heap.size w w8 by rw [← hw8]; exact drewNB HB70.out d)
                        have HBW8 := hid (show Below W1.heap.size W1 w8 by rw [← hw8]; exact drewNB HBW7.out d)
                        rw [hw8]
                        clear hw8 HC7 HC6 c0 c1 c2 c3 c4 c5 HF3 hcc
                        obtain ⟨c0, c1, c2, c3, c4, c5⟩ := HBX8.out
                        go_upto_region 34 with fail
                        go_cut [24] (fun v wx => v = .pointer (some ⟨w8.heap.size, 0, none⟩) ∧ BoxP wx w8.heap.size p.heat p.low p.high (.slice al p.loads.length cl) (.slice ap p.prices.length cp) (.slice am p.machines.length cm) ∧ Below w8.heap.size w8 wx ∧ FrzB wx w8.heap.size)
                        case first =>
                          go_wp2_with fail
                          go_meet
                          obtain ⟨W9, e9, hb9, hx9⟩ := box_plant w8 p.heat p.low p.high (.slice al p.loads.length cl) (.slice ap p.prices.length cp) (.slice am p.machines.length cm)
                          have hf9 : FrzB W9 w8.heap.size := fun i => by rw [← e9]; exact World.frozen?_alloc_new _ _ _ _
                          rw [e9]
                          exact ⟨rfl, hx9, hb9, hf9⟩
                        case rest =>
                          obtain ⟨rfl, hbx9, hb9, hf9⟩ := hcut
                          obtain ⟨w9, rfl⟩ : ∃ w9 : World, w9 = wc := ⟨_, rfl⟩
                          have hw9 : Below w.heap.size w w9 := HB80.out.trans (hb9.mono HB80.out.size)
                          have hwW : Below W1.heap.size W1 w9 := HBW8.out.trans (hb9.mono HBW8.out.size)
                          have hsz : W1.heap.size ≤ w8.heap.size := HBW8.out.size
                          have hlo1 := ho.low1
                          have hlo2 := ho.low2
                          have hhi1 := ho.high1
                          have hhi2 := ho.high2
                          have hw300 := HW3.out
                          rw [IntWalk.wrap64_in _ ⟨by omega, by omega⟩] at hw300
                          refine ‹∀ (a : Act) (w_1 : World), Code.wp Tryd.prog _ (bodyPost Tryd.prog Tryd.f4 (True1 w)) a w_1 → _› _ _ ?_
                          exact cheap_tail p d0 d1 mo hi4 C w w9 w.heap.size (w.heap.size + 1) (w.heap.size + 1 + 1) w8.heap.size al ap am cl cp cm HP.out hw9 (HT.out.below' hw9) (Nat.le_refl _) (by omega) (by omega) (by omega) (World.block_lt_of_cell? _ _ hbx9.1) (HBX8.out.below hb9) (HB21.out.below hwW) (HBM1.out.below hwW) HT.out.lt hbx9 hf9 HOK.out hm3 (by omega) HCB.out HCC.out _ _ _ _ _ _ _ _ _ _ _ _ _ _ _ _ _ _ _ _ _ _ _ _ _ _ _ _ _ _ _ _ _ _ _ _ _ _ _ _ _ _ _ _ _ _ _ _ _ _ _ _ _ _ _ _ _ _ _ _ _ _ _ _ _ _ _ _ _ _ _ _ _ _ _ _ _ _ _ _ _ _ _ _ _ _ _ _ _ _ _ _ _ _ _ _ _ _ _ _ _ _ _ _ _ _ _ _ _ _ _ _ _ _ _ _ _ _ _ _ _ _ _ _ _ _ _ _ _ _ _ _ _ _ _ _ _ _ _ _ _ _ _ _ _ _ _ _ _ _ _ _ _ _ _ _ _ _ _ _ _ _ _ _ _ _ _ _ _ _ _ _ _ _ _ _ _ _ _ _ _ _ _ _ _ _ _ _ _ _ _ _ _ _ _ _ _ _ _ _ _ _ _ _ _ _ _ _ _ _ _ _ _ _ _ _ _ _ _ _ _ _ _
end Go.Proofs.YtjjphiecjhijiaaDoor
namespace Go.Proofs.YtjjphiecjhijiaaDoor.lawCheap
open Go.ChangeShapes Go.WideShapes Go.ChangeAt Go.RowKit

set_option maxRecDepth 100000
theorem cells5 : Tryd.prog.cellsOf 5 = 1 := by kernel_rfl
theorem bytes5 : Tryd.prog.bytesOf 5 = 1 := by kernel_rfl
theorem u8_bd {n : Int} (h : (Lit.int .u8 n).wf = true) : 0 ≤ n ∧ n ≤ 255 := by
  simp [Lit.wf] at h
  have e1 : IntKind.u8.min = 0 := by decide
  have e2 : IntKind.u8.max = 255 := by decide
  omega

/-- A slice of bytes. -/
theorem rd_bytes {H : Type} {enc : TypeId × Value → H} {w : World} {fuel : Nat} {cs : List Value} {x : DataW H × List MemPlace} (h : DataW.trod enc Tryd.prog w 0 (fun _ => true) true fuel 32 cs = some x) (hw : ∀ k ∈ x.1.weights Tryd.prog 32, k ≤ reachBytes) (hlt : ∀ q ∈ x.2, q.block < w.heap.size) :
    ∃ v l, cs = [v] ∧ SlB w v l := by
  rcases open_ints Tryd.underlying32 Tryd.underlying5 cells5 h with ⟨rfl, rfl⟩ | ⟨a, len, cap, zs, rfl, _, hl, hm, hz, rfl, hcell, hwz⟩
  · exact ⟨_, [], rfl, ⟨none, 0, rfl, by simp, .inl rfl⟩, by simp⟩
  · simp only [if_true] at hz
    have hr : len * 1 ≤ 140737488351232 := by
      have := hw ((((lits (H := H) .u8 (zs.take len)).length + (lits (H := H) .u8 (zs.drop len)).length)) * Tryd.prog.bytesOf 5) (by simp [DataW.weights, Tryd.underlying32])
      rw [bytes5] at this
      simp only [lits, List.length_map, List.length_take, List.length_drop, reachBytes] at this
      omega
    refine ⟨_, zs.take len, rfl, ⟨some a, cap, by rw [List.length_take, Nat.min_eq_left (by omega)], by rw [List.length_take]; omega, ?_⟩, fun x hx => u8_bd (hwz x (List.mem_of_mem_take hx))⟩
    by_cases h0 : len = 0
    · exact .inl (by rw [List.length_take]; omega)
    · obtain ⟨b, off, rfl⟩ := addr_at (hcell 0 (by omega))
      refine .inr ⟨b, off, rfl, hlt (.cell b off) (MemPlace.mem_row.2 ⟨0, by omega, by simp⟩), fun i hi => ?_⟩
      simp only [List.length_map, List.length_take] at hi
      rw [← add_plain, hcell i (by omega)]
      simp [List.getD_eq_getElem?_getD, show i < zs.length by omega]
theorem rd_bytesV {H : Type} {enc : TypeId × Value → H} {w : World} {r : Reach} {b0 : Nat} {v : Value} {d : DataW H} {ps : List MemPlace} (h : DataW.Trod enc Tryd.prog w 0 (fun _ => true) true 32 v d ps) (hv : Value.okWide Tryd.prog w r b0 32 v) (hw : ∀ k ∈ d.weights Tryd.prog 32, k ≤ reachBytes) (hlt : ∀ q ∈ ps, q.block < w.heap.size) :
    ∃ l, SlB w v l := by
  obtain ⟨a, len, cap, rfl⟩ := okWide_slice Tryd.underlying32 hv
  obtain ⟨fuel, hf⟩ := h
  obtain ⟨u, l, e, s⟩ := rd_bytes hf hw hlt
  simp only [Value.cells, List.cons.injEq, and_true] at e
  subst e
  exact ⟨l, s⟩


theorem trodAll_five {H : Type} {enc : TypeId × Value → H} {P : Program} {w : World} {base : Nat} {spare : Nat → Bool} {held : Bool} {t0 t1 t2 t3 t4 : TypeId} {args : Array Value} {ds : List (DataW H)} {ps : List MemPlace} (h : DataW.TrodAll enc P w base spare held [t0, t1, t2, t3, t4] args.toList ds ps) :
    ∃ v0 v1 v2 v3 v4 d0 d1 d2 d3 d4 p0 p1 p2 p3 p4, args = #[v0, v1, v2, v3, v4] ∧ ds = [d0, d1, d2, d3, d4] ∧ ps = p0 ++ (p1 ++ (p2 ++ (p3 ++ p4))) ∧ DataW.Trod enc P w base spare held t0 v0 d0 p0 ∧ DataW.Trod enc P w base spare held t1 v1 d1 p1 ∧ DataW.Trod enc P w base spare held t2 v2 d2 p2 ∧ DataW.Trod enc P w base spare held t3 v3 d3 p3 ∧ DataW.Trod enc P w base spare held t4 v4 d4 p4 := by
  obtain ⟨v0, vs0, d0, ds0, p0, q0, hargs, rfl, rfl, hd0, h0⟩ := trodAll_cons h
  obtain ⟨v1, vs1, d1, ds1, p1, q1, rfl, rfl, rfl, hd1, h1⟩ := trodAll_cons h0
  obtain ⟨v2, vs2, d2, ds2, p2, q2, rfl, rfl, rfl, hd2, h2⟩ := trodAll_cons h1
  obtain ⟨v3, vs3, d3, ds3, p3, q3, rfl, rfl, rfl, hd3, h3⟩ := trodAll_cons h2
  obtain ⟨v4, vs4, d4, ds4, p4, q4, rfl, rfl, rfl, hd4, h4⟩ := trodAll_cons h3
  obtain ⟨rfl, rfl, rfl⟩ := trodAll_nil h4
  exact ⟨v0, v1, v2, v3, v4, d0, d1, d2, d3, d4, p0, p1, p2, p3, p4, by cases args; simp_all, rfl, by simp, hd0, hd1, hd2, hd3, hd4⟩
theorem rd_mach {H : Type} {enc : TypeId × Value → H} {w : World} {r : Reach} {b0 : Nat} {v : Value} {d : DataW H} {ps : List MemPlace} (h : DataW.Trod enc Tryd.prog w 0 (fun _ => true) true 35 v d ps) (hv : Value.okWide Tryd.prog w r b0 35 v) :
    ∃ m : Mach, v = .agg #[.int .i64 m.cold, .int .i64 m.power, .int .i64 m.start] := by
  obtain ⟨cs, rfl, hsz⟩ := okWide_struct Tryd.underlying35 hv
  obtain ⟨fuel, hf⟩ := h
  obtain ⟨hl, ys, n, hx, hyl, hfl⟩ := rd_struct Tryd.underlying35 (by kernel_rfl) (by kernel_rfl) hf
  obtain ⟨v0, y0, hv0, hy0, h0⟩ := hfl 0 _ rfl
  obtain ⟨v1, y1, hv1, hy1, h1⟩ := hfl 1 _ rfl
  obtain ⟨v2, y2, hv2, hy2, h2⟩ := hfl 2 _ rfl
  obtain ⟨z0, e0, _⟩ := DataW.trod_int Tryd.underlying3 h0
  obtain ⟨z1, e1, _⟩ := DataW.trod_int Tryd.underlying3 h1
  obtain ⟨z2, e2, _⟩ := DataW.trod_int Tryd.underlying3 h2
  simp only [List.cons.injEq, and_true] at e0 e1 e2
  subst e0 e1 e2
  refine ⟨⟨z0, z1, z2⟩, ?_⟩
  congr 1
  apply Array.ext'
  simp only [Value.cells] at hv0 hv1 hv2 hl
  apply List.ext_getElem?
  intro i
  simp only [List.size_toArray, List.length_cons, List.length_nil] at hl
  match i with
  | 0 => simpa using hv0
  | 1 => simpa using hv1
  | 2 => simpa using hv2
  | k + 3 => simp [hl]
theorem okWide_array {P : Program} {w : World} {r : Reach} {b0 n : Nat} {t e : TypeId} {v : Value} (ht : P.underlying t = some (.array n e)) (h : Value.okWide P w r b0 t v) : ∃ cs, v = .agg cs ∧ cs.size = P.cellsOf t := by
  simp only [Value.okWide, ht] at h
  obtain ⟨cs, h1, h2, _⟩ := h
  exact ⟨cs, h1, h2⟩
theorem rd_pair33 {H : Type} {enc : TypeId × Value → H} {w : World} {r : Reach} {b0 : Nat} {v : Value} {d : DataW H} {ps : List MemPlace} (h : DataW.Trod enc Tryd.prog w 0 (fun _ => true) true 33 v d ps) (hv : Value.okWide Tryd.prog w r b0 33 v) :
    ∃ x y : Int, v = .agg #[.int .i64 x, .int .i64 y] := by
  obtain ⟨cs, rfl, hsz⟩ := okWide_array Tryd.underlying33 hv
  obtain ⟨fuel, hf⟩ := h
  obtain ⟨xs, m, _, hx, hl, hxl, hfl⟩ := DataW.trod_array Tryd.underlying33 hf
  have hc : Tryd.prog.cellsOf 33 = 2 := by kernel_rfl
  have hc3 : Tryd.prog.cellsOf 3 = 1 := cells3
  rw [hc] at hsz
  have hs : cs = #[cs[0]'(by omega), cs[1]'(by omega)] := by
    apply Array.ext
    · simp [hsz]
    · intro i h1 h2
      match i with
      | 0 => rfl
      | 1 => rfl
      | k + 2 => exact absurd h1 (by omega)
  obtain ⟨a, b, rfl⟩ : ∃ a b, cs = #[a, b] := ⟨_, _, hs⟩
  have h0 := hfl 0 (by omega)
  have h1 := hfl 1 (by omega)
  rw [hc3] at h0 h1
  simp only [Value.cells, Nat.zero_mul, Nat.one_mul, List.drop_zero, List.drop_succ_cons, List.take_succ_cons, List.take_zero] at h0 h1
  rw [List.getElem?_eq_getElem (by omega)] at h0 h1
  obtain ⟨z0, e0, _⟩ := DataW.trod_int Tryd.underlying3 h0
  obtain ⟨z1, e1, _⟩ := DataW.trod_int Tryd.underlying3 h1
  simp only [List.cons.injEq, and_true] at e0 e1
  subst e0 e1
  exact ⟨z0, z1, rfl⟩
set_option maxRecDepth 100000 in
theorem contract (H : Type) (enc : TypeId × Value → H) (W : World) (base : Nat) (args : Array Value) (ds gs : List (DataW H)) (before : List MemPlace)
    (hval : ∀ (j : Nat) t v, Tryd.f4.params[j]? = some t → args[j]? = some v → Value.okWide Tryd.prog W .any base t v)
    (hW : DataW.Whole enc Tryd.prog Tryd.f4.params.toList Rows.plantCheapestSpec.vars false W args.toList ds gs before)
    (hsz : (DataW.weightsEach Tryd.prog (Tryd.f4.params.toList ++ (OpenSpec.ofChange Rows.plantCheapestSpec).bare.plain.varTypes Tryd.prog) (ds ++ gs)).all (· ≤ reachBytes) = true) (hL : laidMetH Tryd.prog laidL W) :
    Calls Tryd.prog 4 args W fun e W' => ∃ v, e = .returned v ∧ Rows.plantCheapestSpec.post enc Tryd.prog Tryd.f4 false true false false W args v W' := by
  have hW' := hW
  obtain ⟨p, q, hA0, hV, rfl, hfz, hnd⟩ := hW
  have hA : DataW.TrodAll enc Tryd.prog W 0 (fun _ => true) true Tryd.f4.params.toList args.toList ds p := hA0
  rw [Tryd.params4] at hA hval
  obtain ⟨rfl, rfl⟩ := trodVars_none hV
  obtain ⟨v0, v1, v2, v3, v4, d0, d1, d2, d3, d4, p0, p1, p2, p3, p4, rfl, rfl, rfl, h0, h1, h2, h3, h4⟩ := trodAll_five hA
  have hlt : ∀ x ∈ p0 ++ (p1 ++ (p2 ++ (p3 ++ p4))), x.block < W.heap.size := fun x hx => hW'.lt x (by rw [List.append_nil]; exact hx)
  have hw0 : ∀ k ∈ d0.weights Tryd.prog 25, k ≤ reachBytes := fun k hk => by
    have := List.all_eq_true.1 hsz k (DataW.weights_mem_each (j := 0) (by rw [Tryd.params4]; rfl) rfl k hk)
    simpa using this
  have hw1 : ∀ k ∈ d1.weights Tryd.prog 32, k ≤ reachBytes := fun k hk => by
    have := List.all_eq_true.1 hsz k (DataW.weights_mem_each (j := 1) (by rw [Tryd.params4]; rfl) rfl k hk)
    simpa using this
  obtain ⟨pl, hp⟩ := rd_plant h0 (hval 0 25 v0 rfl rfl) hw0 (fun x hx => hlt x (List.mem_append_left _ hx))
  obtain ⟨bl, hb⟩ := rd_bytesV h1 (hval 1 32 v1 rfl rfl) hw1 (fun x hx => hlt x (List.mem_append_right _ (List.mem_append_left _ hx)))
  obtain ⟨x, y, rfl⟩ := rd_pair33 h2 (hval 2 33 v2 rfl rfl)
  obtain ⟨mo, rfl⟩ := rd_mach h3 (hval 3 35 v3 rfl rfl)
  obtain ⟨n, rfl⟩ := okWide_int Tryd.underlying3 (hval 4 3 v4 rfl rfl)
  refine (cheapest_any v0 v1 pl bl x y mo n W hp hb (tab_of hL)).mono fun e W' ⟨he, hb⟩ => ?_
  subst he
  exact ⟨_, rfl, law_post hW' rfl rfl (by rw [Tryd.params4]; intro t ht; rcases (by simpa using ht : t = 25 ∨ t = 32 ∨ t = 33 ∨ t = 35 ∨ t = 3) with rfl | rfl | rfl | rfl | rfl <;>
                                          exact ⟨by kernel_rfl, of_decide_eq_true (by kernel_rfl)⟩) rfl rfl rfl hb⟩

abbrev wit0 : Value := .agg #[.int .i64 0, .int .i64 0, .int .i64 0, .slice none 0 0, .slice none 0 0, .slice none 0 0]
abbrev wit1 : Value := .slice none 0 0
abbrev wit2 : Value := .agg #[.int .i64 0, .int .i64 0]
abbrev wit3 : Value := .agg #[.int .i64 0, .int .i64 0, .int .i64 0]
abbrev wit4 : Value := .int .i64 0
noncomputable def laidWorld (os : Os) : World := layTabs (World.holding Tryd.prog os ⟨#[], #[], []⟩)
theorem laid_met (os : Os) : laidMet Tryd.prog laidL ((laidWorld os).forCall (fun _ _ => 0) ⟨#[], #[wit0, wit1, wit2, wit3, wit4], []⟩).memory :=
  laidMet_of_run' 8 (by kernel_rfl) (by kernel_rfl)
theorem reads (os : Os) {H : Type} (enc : TypeId × Value → H) : ∃ places, DataW.whole enc Tryd.prog ((laidWorld os).forCall (fun _ _ => 0) ⟨#[], #[wit0, wit1, wit2, wit3, wit4], []⟩).memory Tryd.f4.params.toList Rows.plantCheapestSpec.vars false #[wit0, wit1, wit2, wit3, wit4].toList 8 = some ([.agg [.lit (.int .i64 0), .lit (.int .i64 0), .lit (.int .i64 0), .nil, .nil, .nil], .nil, .agg [.lit (.int .i64 0), .lit (.int .i64 0)], .agg [.lit (.int .i64 0), .lit (.int .i64 0), .lit (.int .i64 0)], .lit (.int .i64 0)], [], places) :=
  ⟨[], by kernel_rfl⟩
set_option maxRecDepth 100000 in
theorem lifted (os : Os) (started : os.Started) (H : Type) (enc : TypeId × Value → H) (F : Stop.Interp) :
    ReturnsInHanded {} Tryd.checked os 4 .any ((OpenSpec.ofChange Rows.plantCheapestSpec).preRow enc Tryd.prog Tryd.f4 Rows.plantCheapestRow.domain false Rows.plantCheapestRow.laid) (((OpenSpec.ofChange Rows.plantCheapestSpec).at F).post enc Tryd.prog Tryd.f4 false true false false) := by
  obtain ⟨places, hx⟩ := reads os enc
  refine returnsInHanded_of_row (C := Tryd.checked) (s := OpenSpec.ofChange Rows.plantCheapestSpec) own started (by kernel_rfl) Tryd.func4
    (witness_row_at (enc := enc) (C := Tryd.checked) false (laidWorld os) #[wit0, wit1, wit2, wit3, wit4] rfl (by kernel_rfl) (by kernel_rfl) (by kernel_rfl)
      (OpenSpec.preRow_of_cond 8 hx (by kernel_rfl) (fun k hk => by cases hk) (by kernel_rfl) (laid_met os))) ?_
  intro W base args ds gs before hval hW _ _ hsz hL _ _
  exact contract H enc W base args ds gs before hval hW hsz hL
theorem said : Rows.PlantCheapestSaid :=
  OpenClaim.holds_of_cond 4 Tryd.f4 rfl rfl rfl rfl rfl rfl rfl ⟨rfl, rfl, rfl, rfl, rfl⟩ rfl rfl rfl rfl rfl (by kernel_rfl) Tryd.func4 (by kernel_rfl)
    (of_decide_eq_true (by kernel_rfl)) (by unfold Func.isWrapper; first | (rw [if_pos (by decide +kernel)]; kernel_rfl) | (rw [if_neg (by decide +kernel)]; exact ⟨rfl, rfl⟩))
    (fun os started H enc _ F => by rw [OpenClaim.pre_eq_preRow]; exact lifted os started H enc F)
theorem plain (f : FuncId) (fn : Func) (hf : Tryd.pinned.checked.prog.funcNamed "besom/besomlaw12.PlantCheapest" = some f) (hfn : Tryd.pinned.checked.prog.funcs[f]? = some fn) :
    false = Tryd.pinned.checked.prog.looks [] ∧ ∀ (j : Nat) t, fn.params[j]? = some t → Tryd.pinned.checked.prog.wantsStandIn t = false := by
  obtain rfl : f = 4 := Option.some.inj ((show Tryd.prog.funcNamed "besom/besomlaw12.PlantCheapest" = some 4 by kernel_rfl).symm.trans hf) |>.symm
  obtain rfl : fn = Tryd.f4 := (Option.some.inj (Tryd.func4.symm.trans hfn)).symm
  refine ⟨by kernel_rfl, fun j t ht => ?_⟩
  rw [Tryd.params4] at ht
  rcases (by simpa using Array.mem_of_getElem? ht : t = 25 ∨ t = 32 ∨ t = 33 ∨ t = 35 ∨ t = 3) with rfl | rfl | rfl | rfl | rfl
  · exact (show Tryd.prog.wantsStandIn 25 = false by kernel_rfl)
  · exact (show Tryd.prog.wantsStandIn 32 = false by kernel_rfl)
  · exact (show Tryd.prog.wantsStandIn 33 = false by kernel_rfl)
  · exact (show Tryd.prog.wantsStandIn 35 = false by kernel_rfl)
  · exact (show Tryd.prog.wantsStandIn 3 = false by kernel_rfl)
/-- The tied card of PlantCheapest. -/
theorem card : Rows.PlantCheapestCardSaid :=
  Claim7.holds_tied_plain_at .later [] _ _ _ _ said (fun _ h => by cases h) (by kernel_rfl) (fun _ h => by cases h) plantCheapest_row_tie rfl ⟨rfl, rfl⟩ (by kernel_rfl) rfl plain (by kernel_rfl)
end Go.Proofs.YtjjphiecjhijiaaDoor.lawCheap
