import Derived.Test.YtjjphiecjhijiaaDoorQ2
import Derived.BigQuiet
import Derived.Test.YtjjphiecjhijiaaDoorQ1
import Derived.Test.YtjjphiecjhijiaaDoorA6
import Derived.Laws.AppendOwnNone
import Derived.Deep.AppendLies
import Derived.Test.YtjjphiecjhijiaaDoorQ4
import Derived.Test.YtjjphiecjhijiaaDoorV1
namespace Go.Proofs.YtjjphiecjhijiaaDoor
open Go.RowKit

set_option maxHeartbeats 400000 in
/-- besomref12.has -/
theorem refHas_any (v : Value) (l : List Int) (n : Int) (w : World) (hs : SlI w v l) :
    Calls Tryd.prog 79 #[v, .int .i64 n] w fun e w' => e = .returned (.bool (decide (n ∈ l))) ∧ w = w' := by
  obtain ⟨a, cap, rfl, hl, hcc⟩ := hs.open
  have HC := hid hcc
  have HR := hid (show decide (n ∈ l) = decide (n ∈ l) from rfl)
  generalize hrb : decide (n ∈ l) = rb at *
  have HRB := hid hrb
  clear hs hcc HR hrb
  go_enter Tryd.func79, Tryd.ntmps79
  go_wp2_with fail
  go_loop [5] (fun i => ∃ k : Nat, k ≤ l.length ∧ i = .int .i64 k ∧ ∀ j (h : j < l.length), j < k → l[j] ≠ n) (fun i => l.length - (intOf i).toNat)
  case atStart => exact ⟨0, Nat.zero_le _, rfl, by omega⟩
  case round =>
    obtain ⟨k, hk, rfl, hno⟩ := hrel
    have HN := hid hno
    clear hno
    by_cases hlt : k < l.length
    · obtain ⟨b, off, rfl, hbl, hcc⟩ := HC.out k hlt
      have hx0 := hcc k hlt
      have HM := hid (show l[k] ∈ l from List.getElem_mem _)
      clear hcc
      generalize hy : l[k] = y at *
      have HY := hid hy
      clear hy
      cases hd : (y == n) with
      | true =>
        have hq : rb = true := by
          have : y = n := by simpa using hd
          rw [← HRB.out, ← this, decide_eq_true HM.out]
        go_wp2_with fail
        go_ret
        exact ⟨rfl, rfl⟩
      | false =>
        go_wp2_with fail
        refine ⟨⟨k + 1, by omega, by go_num, ?_⟩, by simp [intOf]; omega⟩
        intro j hj hjk
        by_cases e : j = k
        · subst e; rw [HY.out]; simpa using hd
        · exact HN.out j hj (by omega)
    · have hq : rb = false := by
        rw [← HRB.out, decide_eq_false_iff_not]
        intro hm
        obtain ⟨j, hj, e⟩ := List.getElem_of_mem hm
        exact HN.out j hj (by omega) e
      go_wp2_with fail
      go_ret
      exact ⟨rfl, rfl⟩

def ABool (e : Ending) : Prop := ∃ b : Bool, e = .returned (.bool b)
theorem filter_one {α : Type} (p : α → Bool) (a : α) : ((List.filter p [a]).length : Int) = if p a then 1 else 0 := by cases h : p a <;> simp [h]
set_option maxHeartbeats 400000 in
/-- besomlaw12.wide: a truth value. -/
theorem wide_any (v : Value) (rs : List (List Int)) (w : World) (hs : SlR w v rs) :
    Calls Tryd.prog 24 #[v] w fun e w' => ABool e ∧ w = w' := by
  obtain ⟨a, cap, rfl, hl, hcc⟩ := hs.open
  have HC := hid hcc
  clear hs hcc
  go_enter Tryd.func24, Tryd.ntmps24
  go_wp2_with fail
  go_loop [3] (fun i => ∃ k : Nat, k ≤ rs.length ∧ i = .int .i64 k) (fun i => rs.length - (intOf i).toNat)
  case atStart => exact ⟨0, Nat.zero_le _, rfl⟩
  case round =>
    obtain ⟨k, hk, rfl⟩ := hrel
    by_cases hlt : k < rs.length
    · obtain ⟨b, off, u, rfl, hbl, hx0, hu⟩ := HC.out k hlt
      obtain ⟨a2, c2, rfl, hl2, _⟩ := hu.open
      clear hu
      generalize rs[k] = r at *
      cases hd : decide ((r.length : Int) > 20) with
      | true =>
        go_wp2_with fail
        go_ret
        exact ⟨⟨_, rfl⟩, rfl⟩
      | false =>
        go_wp2_with fail
        exact ⟨⟨k + 1, by omega, by go_num⟩, by simp [intOf]; omega⟩
    · go_wp2_with fail
      go_ret
      exact ⟨⟨_, rfl⟩, rfl⟩

set_option maxRecDepth 100000 in
set_option maxHeartbeats 400000 in
/-- besomref12.Used -/
theorem used_any (v : Value) (rs : List (List Int)) (sh x : Nat) (w : World) (hs : SlR w v rs) (hr : rs.length ≤ 200) (hsh : ∀ l ∈ rs, sh < l.length) :
    Calls Tryd.prog 30 #[v, .int .i64 (sh : Int), .int .i64 (x : Int)] w fun e w' => e = .returned (.int .i64 (usedN rs sh x)) ∧ w = w' := by
  obtain ⟨a, cap, rfl, hl, hcc⟩ := hs.open
  have HC := hid hcc
  have HSH := hid hsh
  clear hs hcc hsh
  go_enter Tryd.func30, Tryd.ntmps30
  go_wp2_with fail
  go_loop [7, 8] (fun n i => ∃ k m : Nat, k ≤ rs.length ∧ i = .int .i64 k ∧ n = .int .i64 m ∧ (m : Int) = usedN (rs.take k) sh x ∧ m ≤ k) (fun _ i => rs.length - (intOf i).toNat)
  case atStart => exact ⟨0, 0, Nat.zero_le _, rfl, rfl, rfl, by omega⟩
  case round =>
    obtain ⟨k, m, hk, rfl, rfl, hm, hmk⟩ := hrel
    have HM := hid hm
    clear hm
    by_cases hlt : k < rs.length
    · obtain ⟨b, off, u, rfl, hbl, hx0, hu⟩ := HC.out k hlt
      have hrl := HSH.out rs[k] (List.getElem_mem _)
      obtain ⟨a2, c2, rfl, hl2, hcc2⟩ := hu.open
      obtain ⟨b2, off2, rfl, hbl2, hcc3⟩ := hcc2 sh hrl
      have hy0 := hcc3 sh hrl
      have HTK := hid (show usedN (rs.take (k + 1)) sh x = usedN (rs.take k) sh x + if rs[k].getD sh (-1) == (x : Int) then 1 else 0 by
        rw [List.take_succ_eq_append_getElem hlt]
        unfold usedN
        rw [List.filter_append, List.length_append, Int.natCast_add]
        congr 1
        exact filter_one _ _)
      have HG := hid (show rs[k].getD sh (-1) = rs[k][sh] by simp [List.getD_eq_getElem?_getD, hrl])
      clear hu hcc2 hcc3
      generalize rs[k] = r at *
      generalize hy : r[sh] = y at *
      have HY := hid hy
      clear hy
      cases hd : (y == (x : Int)) with
      | true =>
        go_wp2_with fail
        refine ⟨⟨k + 1, m + 1, by omega, by go_num, by go_num, ?_, by omega⟩, by simp [intOf]; omega⟩
        rw [HTK.out, HG.out, hd, ← HM.out]; simp
      | false =>
        go_wp2_with fail
        refine ⟨⟨k + 1, m, by omega, by go_num, rfl, ?_, by omega⟩, by simp [intOf]; omega⟩
        rw [HTK.out, HG.out, hd, ← HM.out]; simp
    · obtain rfl : k = rs.length := by omega
      have hq := HM.out
      rw [List.take_length] at hq
      have HQ := hid hq
      clear hq
      go_wp2_with fail
      go_ret
      exact ⟨ret_int HQ.out, rfl⟩
set_option maxRecDepth 100000 in
set_option maxHeartbeats 1000000 in
/-- besomref12.Round -/
theorem refRound_any (n : Nat) (v : Value) (l : List Int) (w : World) (hn1 : 1 ≤ n) (hn8 : n ≤ 8) (hs : SlI w v l) :
    Calls Tryd.prog 29 #[.int .i64 (n : Int), v] w fun e w' => e = .returned (.bool (roundB n l)) ∧ ∃ d, w' = w.drewN d := by
  obtain ⟨a, cap, rfl, hl, hcc⟩ := hs.open
  have HC := hid hcc
  have HR := hid (show roundB n l = ((l.all (fun x => inB x 0 ((n : Int) - 1)) && decide l.Nodup) && (l.length : Int) == n) from rfl)
  generalize roundB n l = rb at *
  clear hs hcc
  go_enter Tryd.func29, Tryd.ntmps29
  go_wp2_with fail
  go_loopw [5] (fun i wr => ∃ (k : Nat), k ≤ l.length ∧ i = .int .i64 k ∧ (∀ y ∈ l.take k, inB y 0 ((n : Int) - 1) = true) ∧ (l.take k).Nodup ∧ ∃ d, wr = w.drewN d) (fun i _ => l.length - (intOf i).toNat)
  case atStart => exact ⟨0, Nat.zero_le _, rfl, by simp, by simp, 0, rfl⟩
  case round =>
    obtain ⟨k, hk, rfl, hin, hnd, d, rfl⟩ := hrel
    have HIN := hid (And.intro hin hnd)
    clear hin hnd
    by_cases hlt : k < l.length
    · obtain ⟨b, off, rfl, hbl, hcc⟩ := HC.out k hlt
      have hx0 : (w.drewN d).cell? ⟨b, off + k, none⟩ = some (.int .i64 l[k]) := hcc k hlt
      have HCC := hid hcc
      have HTK := hid (And.intro (take_get l k hlt) (show l[k] ∈ l from List.getElem_mem _))
      clear hcc
      generalize hy : l[k] = y at *
      have HY := hid hy
      clear hy
      have hwi := in_any y 0 ((n : Int) - 1) (w.drewN d)
      have hwn : IntKind.i64.wrap ((n : Int) - 1) = (n : Int) - 1 := IntWalk.i64_in _ (by omega)
      cases hib : inB y 0 ((n : Int) - 1) with
      | false =>
        rw [hib] at hwi
        go_wp2_with fail
        refine hwi.mono ?_
        rintro e w' ⟨rfl, rfl⟩
        have : l.all (fun x => inB x 0 ((n : Int) - 1)) = false := List.all_eq_false.2 ⟨y, HTK.out.2, by simp [hib]⟩
        have hq := HR.out
        rw [this] at hq
        have HQ := hid hq
        clear hq this
        go_wp2_with fail
        go_ret
        exact ⟨ret_bool HQ.out.symm, _, rfl⟩
      | true =>
        rw [hib] at hwi
        have HIB := hid hib
        clear hib
        go_wp2_with fail
        refine hwi.mono ?_
        rintro e w' ⟨rfl, rfl⟩
        clear hwi hwn
        go_wp2_with fail
        go_loopw [6] (fun i wr => ∃ (j : Nat), j ≤ k ∧ i = .int .i64 j ∧ (∀ q (h : q < l.length), q < j → l[q] ≠ y) ∧ ∃ d, wr = w.drewN d) (fun i _ => k - (intOf i).toNat)
        case atStart => exact ⟨0, Nat.zero_le _, rfl, by omega, _, rfl⟩
        case round =>
          obtain ⟨j, hj, rfl, hno, d2, rfl⟩ := hrel
          have HNO := hid hno
          clear hno
          by_cases hjk : j < k
          · have hz0 : (w.drewN d2).cell? ⟨b, off + j, none⟩ = some (.int .i64 l[j]) := HCC.out j (by omega)
            have hx2 : (w.drewN d2).cell? ⟨b, off + k, none⟩ = some (.int .i64 y) := hx0
            have hi1 : (j : Int) < (l.length : Int) := by omega
            have hi2 : (k : Int) < (l.length : Int) := by omega
            generalize hw2 : w.drewN d2 = w2 at *
            have HW2 := hid hw2
            clear hw2 hx0
            generalize hz : l[j] = z at *
            have HZ := hid hz
            clear hz
            cases hd : (z == y) with
            | true =>
              have hnn : decide l.Nodup = false := by
                rw [decide_eq_false_iff_not]
                intro hdp
                have h1 := List.Nodup.sublist (List.take_sublist (k + 1) l) hdp
                rw [HTK.out.1, List.nodup_append] at h1
                refine h1.2.2 z ?_ y (by simp) (by simpa using hd)
                rw [← HZ.out]
                exact List.mem_take_iff_getElem.2 ⟨j, by omega, rfl⟩
              have hq := HR.out
              rw [hnn, Bool.and_false, Bool.false_and] at hq
              have HQ := hid hq
              clear hq hnn
              go_upto_region 9 with fail
              go_quiet (fail)
              go_wp2_with fail
              go_ret
              exact ⟨ret_bool HQ.out.symm, by rw [← HW2.out, World.drewN_drewN]; exact ⟨_, rfl⟩⟩
            | false =>
              go_upto_region 9 with fail
              go_quiet (fail)
              go_wp2_with fail
              refine ⟨⟨j + 1, by omega, by go_num, ?_, by rw [← HW2.out, World.drewN_drewN]; exact ⟨_, rfl⟩⟩, by simp [intOf]; omega⟩
              intro q hq hqj
              by_cases e : q = j
              · subst e; rw [HZ.out]; simpa using hd
              · exact HNO.out q hq (by omega)
          · obtain rfl : j = k := by omega
            go_wp2_with fail
            refine ⟨⟨j + 1, by omega, by go_num, ?_, ?_, _, rfl⟩, by simp [intOf]; omega⟩
            · intro z hz
              rw [HTK.out.1] at hz
              rcases List.mem_append.1 hz with hz | hz
              · exact HIN.out.1 z hz
              · simp at hz; rw [hz]; exact HIB.out
            · rw [HTK.out.1]
              refine nodup_snoc HIN.out.2 (fun hm => ?_)
              obtain ⟨q, hq, e⟩ := List.mem_take_iff_getElem.1 hm
              exact HNO.out q (by omega) (by omega) e
    · obtain rfl : k = l.length := by omega
      have hfin := HIN.out
      rw [List.take_length] at hfin
      have hall : l.all (fun x => inB x 0 ((n : Int) - 1)) = true := List.all_eq_true.2 hfin.1
      have hnd : decide l.Nodup = true := decide_eq_true hfin.2
      rw [hall, hnd] at HR
      clear hfin hall hnd
      go_wp2_with fail
      go_ret
      exact ⟨ret_bool (by rw [HR.out]; simp), _, rfl⟩
set_option maxRecDepth 100000 in
set_option maxHeartbeats 400000 in
/-- besomref12.CheckRotation -/
theorem refCheckRot_any (n : Int) (v : Value) (rs : List (List Int)) (w : World) (hs : SlR w v rs) :
    Calls Tryd.prog 28 #[.int .i64 n, v] w fun e w' => e = .returned (.bool (rotB n rs)) ∧ ∃ d, w' = w.drewN d := by
  obtain ⟨a, cap, rfl, hl, hcc⟩ := hs.open
  have HC := hid hcc
  have HW := hid (fun w' => in_any n 1 8 w')
  have HR := hid (show rotB n rs = ((inB n 1 8 && decide (rs.length ≤ 100)) && rs.all (roundB n)) from rfl)
  generalize rotB n rs = rb at *
  clear hs hcc
  have HB := hid (show inB n 1 8 = true → 1 ≤ n ∧ n ≤ 8 by intro h; simpa [inB] using h)
  cases hib : inB n 1 8 with
  | false =>
    rw [hib] at HW HR
    have hq : rb = false := by rw [HR.out]; rfl
    have HQ := hid hq
    clear hq hib
    go_enter Tryd.func28, Tryd.ntmps28
    go_wp2_with fail
    refine (HW.out _).mono ?_
    rintro e w' ⟨rfl, rfl⟩
    go_wp2_with fail
    go_ret
    exact ⟨ret_bool HQ.out.symm, 0, rfl⟩
  | true =>
    have hn := HB.out hib
    rw [hib] at HW HR
    obtain ⟨m, rfl⟩ : ∃ m : Nat, n = (m : Int) := ⟨n.toNat, by omega⟩
    have hm1 : 1 ≤ m := by omega
    have hm8 : m ≤ 8 := by omega
    clear hn HB hib
    by_cases h2 : rs.length ≤ 100
    · have h2I : decide ((rs.length : Int) > 100) = false := by simp; omega
      have h2d : decide (rs.length ≤ 100) = true := by simp [h2]
      rw [h2d] at HR
      clear h2d
      go_enter Tryd.func28, Tryd.ntmps28
      go_wp2_with fail
      refine (HW.out _).mono ?_
      rintro e w' ⟨rfl, rfl⟩
      clear HW
      go_wp2_with fail
      go_loopw [5] (fun i wr => ∃ (k : Nat), k ≤ rs.length ∧ i = .int .i64 k ∧ (∀ j (h : j < rs.length), j < k → roundB m rs[j] = true) ∧ ∃ d, wr = w.drewN d) (fun i _ => rs.length - (intOf i).toNat)
      case atStart => exact ⟨0, Nat.zero_le _, rfl, by omega, 0, rfl⟩
      case round =>
        obtain ⟨k, hk, rfl, hno, d, rfl⟩ := hrel
        have HN := hid hno
        clear hno
        by_cases hlt : k < rs.length
        · obtain ⟨b, off, u, rfl, hbl, hx0, hu⟩ := HC.out k hlt
          generalize hw2 : w.drewN d = w2 at *
          have hx2 : w2.cell? ⟨b, off + k, none⟩ = some u := by rw [← hw2]; exact hx0
          have hu2 : SlI w2 u rs[k] := by rw [← hw2]; exact hu
          have HM := hid (show rs[k] ∈ rs from List.getElem_mem _)
          have HCA := hid (refRound_any m u rs[k] w2 hm1 hm8 hu2)
          have HW2 := hid hw2
          clear hw2 hx0 hu hu2
          generalize hr : rs[k] = r at *
          have HRK := hid hr
          clear hr
          cases hb : roundB m r with
          | false =>
            rw [hb] at HCA
            have hq : rb = false := by
              rw [HR.out]
              have : rs.all (roundB (m : Int)) = false := List.all_eq_false.2 ⟨r, HM.out, by simp [hb]⟩
              rw [this]; rfl
            have HQ := hid hq
            clear hq hb
            go_wp2_with fail
            refine HCA.out.mono ?_
            rintro e w' ⟨rfl, d3, rfl⟩
            go_wp2_with fail
            go_ret
            exact ⟨ret_bool HQ.out.symm, by rw [← HW2.out, World.drewN_drewN]; exact ⟨_, rfl⟩⟩
          | true =>
            rw [hb] at HCA
            have HRB := hid hb
            clear hb
            go_wp2_with fail
            refine HCA.out.mono ?_
            rintro e w' ⟨rfl, d3, rfl⟩
            go_wp2_with fail
            refine ⟨⟨k + 1, by omega, by go_num, ?_, by rw [← HW2.out, World.drewN_drewN]; exact ⟨_, rfl⟩⟩, by simp [intOf]; omega⟩
            intro j hj hjk
            by_cases e : j = k
            · subst e; rw [HRK.out]; exact HRB.out
            · exact HN.out j hj (by omega)
        · have hq : rb = true := by
            rw [HR.out, Bool.true_and, Bool.true_and, List.all_eq_true]
            intro x hx
            obtain ⟨j, hj, rfl⟩ := List.getElem_of_mem hx
            exact HN.out j hj (by omega)
          have HQ := hid hq
          clear hq
          go_wp2_with fail
          go_ret
          exact ⟨ret_bool HQ.out.symm, _, rfl⟩
    · have h2I : decide ((rs.length : Int) > 100) = true := by simp; omega
      have h2d : decide (rs.length ≤ 100) = false := by simp; omega
      rw [h2d] at HR
      have hq : rb = false := by rw [HR.out]; rfl
      have HQ := hid hq
      clear hq h2d
      go_enter Tryd.func28, Tryd.ntmps28
      go_wp2_with fail
      refine (HW.out _).mono ?_
      rintro e w' ⟨rfl, rfl⟩
      go_wp2_with fail
      go_ret
      exact ⟨ret_bool HQ.out.symm, 0, rfl⟩
end Go.Proofs.YtjjphiecjhijiaaDoor

namespace Go.Proofs.YtjjphiecjhijiaaDoor
open Go.RowKit

/-- The sets below j that a row does not have. -/
def freeN (row : List Int) (j : Nat) : List Nat := (List.range j).filter fun (x : Nat) => !decide ((x : Int) ∈ row)
theorem freeN_succ (row : List Int) (j : Nat) : freeN row (j + 1) = freeN row j ++ if (j : Int) ∈ row then [] else [j] := by
  unfold freeN
  rw [List.range_succ, List.filter_append]
  congr 1
  by_cases h : (j : Int) ∈ row <;> simp [h]
theorem freeN_mem {row : List Int} {j x : Nat} : x ∈ freeN row j ↔ x < j ∧ (x : Int) ∉ row := by simp [freeN]
theorem freeN_nodup (row : List Int) (j : Nat) : (freeN row j).Nodup := List.Nodup.sublist (List.filter_sublist (l := List.range j)) List.nodup_range
theorem freeN_more (row : List Int) (n x : Nat) : freeN (row ++ [(x : Int)]) n = (freeN row n).erase x := by
  rw [(freeN_nodup row n).erase_eq_filter]
  unfold freeN
  rw [List.filter_filter]
  apply List.filter_congr
  intro y _
  by_cases h2 : y = x
  · subst h2; simp
  · have h3 : ¬ (y : Int) = (x : Int) := by omega
    have h4 : (y != x) = true := by simpa using h2
    rw [h4]
    simp [h3]
theorem freeN_nil (n : Nat) : freeN [] n = List.range n := by simp [freeN]

/-- The first of some sets with which their least sum is kept. -/
def pickP (U : Nat → Nat → Int) (k : Nat) (l : List Nat) (sh : Nat) (pre : List Nat) : Nat := (pre.find? fun x => mN U k (l.erase x) (sh + 1) + U sh x == foldN U k l sh pre).getD 0
theorem pickP_all (U : Nat → Nat → Int) (k : Nat) (l : List Nat) (sh : Nat) : pickP U k l sh l = pickN U k l sh := rfl
theorem foldN_all (U : Nat → Nat → Int) (k : Nat) (l : List Nat) (sh : Nat) : foldN U k l sh l = mN U (k + 1) l sh := rfl
theorem pickP_new {U : Nat → Nat → Int} (h : uOk U) (k : Nat) (l : List Nat) (sh : Nat) (hm : ∀ x ∈ l, 0 ≤ mN U k (l.erase x) (sh + 1)) (pre : List Nat) (x : Nat) (hp : ∀ y ∈ pre ++ [x], y ∈ l) (hc : foldN U k l sh pre < 0 ∨ mN U k (l.erase x) (sh + 1) + U sh x < foldN U k l sh pre) :
    pickP U k l sh (pre ++ [x]) = x ∧ foldN U k l sh (pre ++ [x]) = mN U k (l.erase x) (sh + 1) + U sh x := by
  have e : foldN U k l sh (pre ++ [x]) = mN U k (l.erase x) (sh + 1) + U sh x := by rw [foldN_snoc]; unfold stepN; rw [if_pos hc]
  refine ⟨?_, e⟩
  unfold pickP
  rw [e, List.find?_append]
  have hn : pre.find? (fun y => mN U k (l.erase y) (sh + 1) + U sh y == mN U k (l.erase x) (sh + 1) + U sh x) = none := by
    rw [List.find?_eq_none]
    intro y hy
    by_cases e0 : pre = []
    · subst e0; simp at hy
    · obtain ⟨⟨z, hz, h1⟩, h2⟩ := foldN_hit h k l sh hm pre (fun q hq => hp q (by simp [hq])) e0
      have h3 := h2 y hy
      have h4 := hm z (hp z (by simp [hz]))
      have h5 := h sh z
      simp only [beq_iff_eq]
      omega
  rw [hn]
  simp
theorem pickP_old {U : Nat → Nat → Int} (h : uOk U) (k : Nat) (l : List Nat) (sh : Nat) (hm : ∀ x ∈ l, 0 ≤ mN U k (l.erase x) (sh + 1)) (pre : List Nat) (x : Nat) (hp : ∀ y ∈ pre ++ [x], y ∈ l) (hc : ¬ (foldN U k l sh pre < 0 ∨ mN U k (l.erase x) (sh + 1) + U sh x < foldN U k l sh pre)) :
    pickP U k l sh (pre ++ [x]) = pickP U k l sh pre ∧ foldN U k l sh (pre ++ [x]) = foldN U k l sh pre ∧ pre ≠ [] := by
  have e : foldN U k l sh (pre ++ [x]) = foldN U k l sh pre := by rw [foldN_snoc]; unfold stepN; rw [if_neg hc]
  have e0 : pre ≠ [] := by
    rintro rfl
    exact hc (.inl (by simp [foldN]))
  refine ⟨?_, e, e0⟩
  unfold pickP
  rw [e, List.find?_append]
  obtain ⟨⟨z, hz, h1⟩, _⟩ := foldN_hit h k l sh hm pre (fun q hq => hp q (by simp [hq])) e0
  cases e2 : pre.find? (fun y => mN U k (l.erase y) (sh + 1) + U sh y == foldN U k l sh pre) with
  | none =>
    have := List.find?_eq_none.1 e2 z hz
    simp at this
    exact absurd h1 this
  | some y => rfl
/-- What best has found, of the sets that it has tried. -/
def outP (U : Nat → Nat → Int) (k : Nat) (l : List Nat) (sh : Nat) (row : List Int) (pre : List Nat) : List Int :=
  if pre = [] then [] else row ++ (pickP U k l sh pre :: rowN U k (l.erase (pickP U k l sh pre)) (sh + 1)).map fun (x : Nat) => (x : Int)
theorem outP_all (U : Nat → Nat → Int) (k : Nat) (l : List Nat) (sh : Nat) (row : List Int) (hl : l ≠ []) : outP U k l sh row l = row ++ (rowN U (k + 1) l sh).map fun (x : Nat) => (x : Int) := by
  unfold outP; rw [if_neg hl]; rfl
theorem outP_new {U : Nat → Nat → Int} (h : uOk U) (k : Nat) (l : List Nat) (sh : Nat) (row : List Int) (hm : ∀ x ∈ l, 0 ≤ mN U k (l.erase x) (sh + 1)) (pre : List Nat) (x : Nat) (hp : ∀ y ∈ pre ++ [x], y ∈ l) (hc : foldN U k l sh pre < 0 ∨ mN U k (l.erase x) (sh + 1) + U sh x < foldN U k l sh pre) :
    outP U k l sh row (pre ++ [x]) = (row ++ [(x : Int)]) ++ (rowN U k (l.erase x) (sh + 1)).map fun (x : Nat) => (x : Int) := by
  unfold outP
  rw [if_neg (by simp), (pickP_new h k l sh hm pre x hp hc).1]
  simp
theorem outP_old {U : Nat → Nat → Int} (h : uOk U) (k : Nat) (l : List Nat) (sh : Nat) (row : List Int) (hm : ∀ x ∈ l, 0 ≤ mN U k (l.erase x) (sh + 1)) (pre : List Nat) (x : Nat) (hp : ∀ y ∈ pre ++ [x], y ∈ l) (hc : ¬ (foldN U k l sh pre < 0 ∨ mN U k (l.erase x) (sh + 1) + U sh x < foldN U k l sh pre)) :
    outP U k l sh row (pre ++ [x]) = outP U k l sh row pre := by
  obtain ⟨h1, _, h2⟩ := pickP_old h k l sh hm pre x hp hc
  unfold outP
  rw [if_neg (by simp), if_neg h2, h1]
end Go.Proofs.YtjjphiecjhijiaaDoor

namespace Go.Proofs.YtjjphiecjhijiaaDoor
open Go.RowKit

/-- append(own, row...) of a row that may be nil. -/
theorem append_row {ops : Array Oper} {rest : List Oper} {o : Oper} {a : Act} {Q : Exit → Act → World → Prop} (w : World) (hgd : o.guard = none) (s x : Operand)
    (ho : o.op = .call { callee := .builtin .append, args := #[s, x], argTypes := #[22, 22] }) (base : Nat) (v : Value) (n : Nat) (xs : List Value) (hs : a.eval s = v) (hown : w.ownsRow base 3 1 v n xs)
    (rv : Value) (row : List Int) (hx : a.eval x = rv) (hr : SlI w rv row) (hnil : row = [] → rv = .slice none 0 0) (hsm : n + row.length ≤ 1000) (hbase : base ≤ w.heap.size) (N : Nat) (ys : List Value) (hN : n + row.length = N) (hys : xs ++ row.map (.int .i64) = ys)
    (h : ∀ v' w', w'.ownsRow base 3 1 v' N ys → w.grownBy w' v.ownBlock → wpList Tryd.prog ops Q rest (a.put o.dst v') w') : wpList Tryd.prog ops Q (o :: rest) a w := by
  subst hN hys
  obtain ⟨i0, hi, hz0, hz1, hz2⟩ := info_parts info3
  by_cases h0 : row = []
  · subst h0
    exact wpList_append_own_none hgd s x 22 ho base 3 i0 1 Tryd.underlying22 hi v n xs hs hown (hx.trans (hnil rfl)) (h v w (by simpa using hown) ⟨rfl, rfl, rfl, Nat.le_refl _, fun _ _ _ => rfl⟩)
  · obtain ⟨ad, cap, rfl, hl, hcc⟩ := hr.open
    have hp : 0 < row.length := List.length_pos_iff.2 h0
    obtain ⟨b, off, rfl, hb, hc⟩ := hcc 0 hp
    refine wpList_append_lies w hgd s x 22 ho base 3 i0 (.int .i64 0) 1 8 Tryd.underlying22 hi hz0 hz1 hz2 rfl (by omega) v n xs hs hown ⟨b, off, none⟩ row.length cap (row.map (.int .i64)) hx (by simp) ?_ ?_ hp (by unfold maxLen; omega) (by omega) hbase w.heap.size rfl (fun g cap w' h1 h2 _ _ => h _ w' h1 h2)
    · intro j u hu
      rw [List.getElem?_map] at hu
      by_cases hj : j < row.length
      · rw [List.getElem?_eq_getElem hj] at hu
        have hu' := Option.some.inj hu
        rw [← hu', Addr.add_lit]
        exact hc j hj
      · rw [List.getElem?_eq_none (by omega)] at hu; cases hu
    · intro u hu
      obtain ⟨z, _, rfl⟩ := List.mem_map.1 hu
      rfl

/-- A square of numbers, row by row. -/
def matN (n : Nat) (U : Nat → Nat → Int) : List (List Int) := (List.range n).map fun i => (List.range n).map fun j => U i j
def BestQ (m : Int) (out : List Int) (w : World) (e : Ending) (w' : World) : Prop := ∃ v, e = .returned (.tuple #[v, .int .i64 m]) ∧ SlI w' v out ∧ Below w.heap.size w w'
theorem mat_at (n : Nat) (U : Nat → Nat → Int) {w : World} {uv : Value} (h : SlR w uv (matN n U)) (i j : Nat) (hi : i < n) (hj : j < n) : ∃ b off b2 off2 cap cap2, uv = .slice (some ⟨b, off, none⟩) n cap ∧ w.cell? ⟨b, off + i, none⟩ = some (.slice (some ⟨b2, off2, none⟩) n cap2) ∧ w.cell? ⟨b2, off2 + j, none⟩ = some (.int .i64 (U i j)) := by
  obtain ⟨a, cap, rfl, hl, hc⟩ := h.open
  have hln : (matN n U).length = n := by simp [matN]
  obtain ⟨b, off, u, rfl, hb, hx, hu⟩ := hc i (by omega)
  have hrow : (matN n U)[i]'(by omega) = (List.range n).map fun j => U i j := by simp [matN]
  rw [hrow] at hu
  obtain ⟨a2, cap2, rfl, hl2, hc2⟩ := hu.open
  obtain ⟨b2, off2, rfl, hb2, hx2⟩ := hc2 j (by simp [hj])
  refine ⟨b, off, b2, off2, cap, cap2, by rw [hln], by rw [hx]; simp, ?_⟩
  rw [hx2 j (by simp [hj])]
  simp

set_option maxRecDepth 100000 in
set_option maxHeartbeats 2000000 in
/-- besomref12.best -/
theorem refBest_any (n : Nat) (U : Nat → Nat → Int) (hU : uOk U) (hn8 : n ≤ 8) : ∀ (k : Nat) (uv rv : Value) (row : List Int) (w : World), SlR w uv (matN n U) → SlI w rv row → (row = [] → rv = .slice none 0 0) → (freeN row n).length = k → row.length + k = n →
    Calls Tryd.prog 58 #[uv, rv] w (BestQ (mN U k (freeN row n) row.length) (row ++ (rowN U k (freeN row n) row.length).map fun (x : Nat) => (x : Int)) w) := by
  intro k
  induction k with
  | zero =>
    intro uv rv row w hu hr hnil hl hs
    have HR := hid hr
    obtain ⟨a, cap, rfl, hll, -⟩ := hu.open
    obtain ⟨a2, cap2, rfl, hll2, -⟩ := hr.open
    have he : ((row.length : Int) == ((matN n U).length : Int)) = true := by simp [matN]; omega
    have HQ := hid (show row ++ (rowN U 0 (freeN row n) row.length).map (fun (x : Nat) => (x : Int)) = row by simp [rowN])
    have HM := hid (show mN U 0 (freeN row n) row.length = 0 from rfl)
    rw [HQ.out, HM.out]
    clear HQ HM
    generalize (matN n U).length = nn at *
    clear hu hr hnil
    go_enter Tryd.func58, Tryd.ntmps58
    go_wp2_with fail
    go_ret2
    exact ⟨_, rfl, HR.out, Below.refl _ _⟩
  | succ k ih =>
    intro uv rv row w hu hr hnil hl hs
    have HU := hid hu
    have HR := hid hr
    have HN := hid hnil
    have HIH := hid ih
    have hln : (matN n U).length = n := by simp [matN]
    obtain ⟨au, capu, rfl, hll, -⟩ := hu.open
    rw [hln] at HU hll ⊢
    obtain ⟨ar, capr, rfl, hll2, -⟩ := hr.open
    have he : ((row.length : Int) == (n : Int)) = false := by simp; omega
    have HMB := hid (show ∀ x ∈ freeN row n, 0 ≤ mN U k ((freeN row n).erase x) (row.length + 1) ∧ mN U k ((freeN row n).erase x) (row.length + 1) ≤ k * 1000 from fun x hx => mN_bd hU k _ _ (by rw [List.length_erase_of_mem hx]; omega))
    have HL := hid hl
    have HOA := hid (outP_all U k (freeN row n) row.length row (by rintro e; rw [e] at hl; simp at hl))
    have hsh : row.length < n := by omega
    obtain ⟨i0, hi, hz0, hz1, hz2⟩ := info_parts info3
    have hrl : (row.length : Int) < (n : Int) := by omega
    clear hu hr hnil ih hln hl
    go_enter Tryd.func58, Tryd.ntmps58
    go_wp2_with fail
    go_loopw [6, 7, 8] (fun o m i wr => ∃ j : Nat, j ≤ n ∧ i = .int .i64 j ∧ m = .int .i64 (foldN U k (freeN row n) row.length (freeN row j)) ∧ SlI wr o (outP U k (freeN row n) row.length row (freeN row j)) ∧ Below w.heap.size w wr) (fun _ _ i _ => n - (intOf i).toNat)
    case atStart => exact ⟨0, Nat.zero_le _, rfl, rfl, nil_SlI _, Below.refl _ _⟩
    case round =>
      obtain ⟨j, hj, rfl, rfl, hso, hbr⟩ := hrel
      obtain ⟨w2, rfl⟩ : ∃ w2 : World, w2 = wr := ⟨_, rfl⟩
      have HSO := hid hso
      have HB := hid hbr
      clear hso hbr
      by_cases hjn : j < n
      · have HLS := hid (freeN_succ row j)
        have hhas := refHas_any _ row (j : Int) w2 (HR.out.below HB.out)
        by_cases hin : (j : Int) ∈ row
        · have hd : decide ((j : Int) ∈ row) = true := by simp [hin]
          rw [hd] at hhas
          have hls : freeN row (j + 1) = freeN row j := by rw [HLS.out, if_pos hin]; simp
          have HLS2 := hid hls
          clear hls hd hin
          go_wp2_with fail
          refine hhas.mono ?_
          rintro e w' ⟨rfl, rfl⟩
          go_wp2_with fail
          refine ⟨⟨j + 1, by omega, by go_num, by rw [HLS2.out], by rw [HLS2.out]; exact HSO.out, HB.out⟩, by simp [intOf]; omega⟩
        · have hd : decide ((j : Int) ∈ row) = false := by simp [hin]
          rw [hd] at hhas
          have hls : freeN row (j + 1) = freeN row j ++ [j] := by rw [HLS.out, if_neg hin]
          have hjm : j ∈ freeN row n := freeN_mem.2 ⟨hjn, hin⟩
          have HP := hid (show ∀ y ∈ freeN row j ++ [j], y ∈ freeN row n by
            intro y hy
            rcases List.mem_append.1 hy with hy | hy
            · have := freeN_mem.1 hy
              exact freeN_mem.2 ⟨by omega, this.2⟩
            · simp at hy; rw [hy]; exact hjm)
          have HJM := hid hjm
          have HLS2 := hid hls
          have HIH2 := hid (show ∀ (rv' : Value) (w' : World), SlR w' (.slice au n capu) (matN n U) → SlI w' rv' (row ++ [(j : Int)]) → Calls Tryd.prog 58 #[.slice au n capu, rv'] w' (BestQ (mN U k ((freeN row n).erase j) (row.length + 1)) ((row ++ [(j : Int)]) ++ (rowN U k ((freeN row n).erase j) (row.length + 1)).map fun (x : Nat) => (x : Int)) w') by
            intro rv' w' h1 h2
            have h := HIH.out _ rv' (row ++ [(j : Int)]) w' h1 h2 (by simp) (by rw [freeN_more, List.length_erase_of_mem HJM.out, HL.out]; rfl) (by simp; omega)
            rw [freeN_more, List.length_append] at h
            exact h)
          clear hls hd hin hjm HIH
          go_wp2_with fail
          refine hhas.mono ?_
          rintro e w' ⟨rfl, rfl⟩
          have hro : w2.heap.size ≤ w2.heap.size := Nat.le_refl _
          go_wp2_with (at_builtin; first | (refine append_row _ rfl _ _ rfl w2.heap.size _ 0 [] rfl (World.ownsRow_made w2 #[] 0 (Nat.le_refl _) (by decide) rfl) (.slice ar row.length capr) row rfl (HR.out.below (HB.out.alloc HB.out.size _)) HN.out (by omega) (by simp) row.length (row.map (.int .i64)) (Nat.zero_add _) rfl ?_; intro v5 w5 hown5 hgrow5) | (refine wpList_append_lies _ rfl _ _ 22 rfl w2.heap.size 3 i0 (.int .i64 0) 1 8 Tryd.underlying22 hi hz0 hz1 hz2 rfl (by omega) v5 row.length _ rfl (hown5.alloc _) ⟨w5.heap.size, 0, none⟩ 1 1 [.int .i64 (j : Int)] rfl rfl (cell_one_new _ _ _) (ones _ rfl) (by omega) (by unfold maxLen; omega) (by omega) (by have := hgrow5.size; simp at this ⊢; omega) (w5.heap.size + 1) (by simp) ?_; intro g6 cap6 w6 hown6 hgrow6 hat6 hlt6))
          have hb6 : Below w2.heap.size w2 w6 := by
            have h1 : Below w2.heap.size w2 (w2.alloc (.cells #[] 3)) := (Below.refl _ _).alloc (Nat.le_refl _) _
            have h2 : Below w2.heap.size w2 w5 := h1.grown hgrow5 h1.size (fun r hr => by have e : w2.heap.size = r := Option.some.inj hr; omega)
            have h3 := h2.alloc h2.size (.cells #[.int .i64 (j : Int)] 3)
            exact h3.grown hgrow6 h3.size (fun r hr => (hown5.lt r hr).1)
          have hs6 : SlI w6 (.slice (some ⟨g6, 0, none⟩) (row.length + 1) cap6) (row ++ [(j : Int)]) := own_SlI (B := w2.heap.size) (n := row.length + 1) (show w6.ownsRow w2.heap.size 3 1 _ _ ((row ++ [(j : Int)]).map (.int .i64)) from by rw [List.map_append]; exact hown6) (by simp; omega)
          have HB6 := hid hb6
          have HS6 := hid hs6
          clear hb6 hs6 hown6 hgrow6 hat6 hlt6 hown5 hgrow5
          refine (HIH2.out _ w6 ((HU.out.below HB.out).below HB6.out) HS6.out).mono ?_
          rintro e w7 ⟨v7, rfl, hs7, hb7⟩
          have hb27 := HB6.out.trans (hb7.mono HB6.out.size)
          have HB7 := hid (HB.out.trans (hb27.mono HB.out.size))
          have HSO7 := hid (HSO.out.below hb27)
          have HS7 := hid hs7
          clear hs7 hb7 hb27 HIH2
          obtain ⟨b, off, b2, off2, cp, cp2, huv, y0, y1⟩ := mat_at n U (HU.out.below HB7.out) row.length j hsh hjn
          obtain ⟨rfl, -, rfl⟩ := Value.slice.inj huv
          have hmb := HMB.out j HJM.out
          have huj := hU row.length j
          have HNEW := hid (fun hc => And.intro (outP_new hU k (freeN row n) row.length row (fun x hx => (HMB.out x hx).1) (freeN row j) j HP.out hc) (pickP_new hU k (freeN row n) row.length (fun x hx => (HMB.out x hx).1) (freeN row j) j HP.out hc).2)
          have HOLD := hid (fun hc => And.intro (outP_old hU k (freeN row n) row.length row (fun x hx => (HMB.out x hx).1) (freeN row j) j HP.out hc) (pickP_old hU k (freeN row n) row.length (fun x hx => (HMB.out x hx).1) (freeN row j) j HP.out hc).2.1)
          rw [← HLS2.out] at HNEW HOLD
          clear huv
          generalize foldN U k (freeN row n) row.length (freeN row j) = F at *
          generalize mN U k ((freeN row n).erase j) (row.length + 1) = M at *
          generalize U row.length j = ux at *
          obtain ⟨hm0, hm1⟩ := hmb
          obtain ⟨hu0, hu1⟩ := huj
          have hm8 : M ≤ 8000 := by omega
          by_cases hF : F < 0
          · have hFd : decide (F < 0) = true := by simp [hF]
            have HX := hid (HNEW.out (.inl hF))
            clear hF hm1
            go_wp2_with fail
            refine ⟨⟨j + 1, by omega, by go_num, by rw [HX.out.2], by rw [HX.out.1]; exact HS7.out, HB7.out⟩, by simp [intOf]; omega⟩
          · have hFd : decide (F < 0) = false := by simp; omega
            by_cases hlt : M + ux < F
            · have hFe : decide (M + ux < F) = true := by simp [hlt]
              have HX := hid (HNEW.out (.inr hlt))
              clear hF hm1 hlt
              go_wp2_with fail
              refine ⟨⟨j + 1, by omega, by go_num, by rw [HX.out.2], by rw [HX.out.1]; exact HS7.out, HB7.out⟩, by simp [intOf]; omega⟩
            · have hFe : decide (M + ux < F) = false := by simp; omega
              have HX := hid (HOLD.out (fun hc => by rcases hc with hc | hc; exact hF hc; exact hlt hc))
              clear hF hm1 hlt
              go_wp2_with fail
              refine ⟨⟨j + 1, by omega, by go_num, by rw [HX.out.2], by rw [HX.out.1]; exact HSO7.out, HB7.out⟩, by simp [intOf]; omega⟩
      · obtain rfl : j = n := by omega
        have hso := HSO.out
        rw [HOA.out] at hso
        have HSO2 := hid hso
        clear hso
        go_wp2_with fail
        go_ret2
        exact ⟨_, rfl, HSO2.out, HB.out⟩
end Go.Proofs.YtjjphiecjhijiaaDoor

namespace Go.Proofs.YtjjphiecjhijiaaDoor
open Go.RowKit Go.Maps

theorem info22 : (Tryd.prog.info? 22).map (fun i => (i.zero, i.size, i.bytes)) = some (some (.slice none 0 0), 1, 24) := by kernel_rfl
/-- The rows of a square that lie already. -/
def RowsF (w : World) (u : Value) (vs : List Value) (k : Nat) (U : Nat → Nat → Int) (m : Nat) : Prop :=
  vs.length = k ∧ ∀ j (h : j < vs.length), ∃ b cap, vs[j] = .slice (some ⟨b, 0, none⟩) m cap ∧ b < w.heap.size ∧ u.ownBlock ≠ some b ∧ ∀ i, i < m → w.cell? ⟨b, i, none⟩ = some (.int .i64 (U j i))
theorem RowsF.square {w : World} {u : Value} {vs : List Value} {m base : Nat} {U : Nat → Nat → Int} (h : RowsF w u vs m U m) (ho : w.ownsRow base 22 1 u m vs) (hm : 0 < m) (hm8 : m ≤ 8) : SlR w u (matN m U) := by
  obtain ⟨g, cap, rfl, _, hg⟩ := ho.form hm
  refine ⟨vs, by rw [h.1]; simp [matN], ⟨some ⟨g, 0, none⟩, cap, by simp [matN], by simp [matN]; omega, .inr ⟨g, 0, rfl, hg, fun i hi => ?_⟩⟩, fun j hj hj' => ?_⟩
  · have := ho.cells (g := g) rfl i _ (List.getElem?_eq_getElem hi)
    rw [Addr.add_lit] at this
    exact this
  · obtain ⟨b, cap2, e, hb, _, hc⟩ := h.2 j hj'
    have hrow : (matN m U)[j] = (List.range m).map fun i => U j i := by simp [matN]
    rw [e, hrow]
    refine ⟨some ⟨b, 0, none⟩, cap2, by simp, by simp; omega, .inr ⟨b, 0, rfl, hb, fun i hi => ?_⟩⟩
    simp only [List.length_map, List.length_range] at hi
    rw [Nat.zero_add, hc i hi]
    simp
theorem RowsF.more {w2 w4 w7 : World} {u r : Value} {vs : List Value} {k m g7 cap7 n7 : Nat} {U : Nat → Nat → Int} {o : Obj} {base : Nat} (h : RowsF w2 u vs k U m) (hb : Below w2.heap.size w2 w4) (hu : ∀ q, u.ownBlock = some q → q < w2.heap.size)
    (hr : w4.ownsRow w2.heap.size 3 1 r m ((List.range m).map fun i => Value.int .i64 (U k i))) (hm : 0 < m) (hg : (w4.alloc o).grownBy w7 u.ownBlock) (hat : u.ownBlock = some g7 ∨ g7 = w4.heap.size + 1) (_hbase : base = base) :
    RowsF w7 (.slice (some ⟨g7, 0, none⟩) n7 cap7) (vs ++ [r]) (k + 1) U m := by
  obtain ⟨g, cap, rfl, hg1, hg2⟩ := hr.form hm
  have hsz := hb.size
  have hsz7 := hg.size
  simp at hsz7
  have hne : ∀ b, b < w4.heap.size → u.ownBlock ≠ some b → (Value.slice (some ⟨g7, 0, none⟩) n7 cap7).ownBlock ≠ some b := by
    intro b hbl hn e
    have e2 : g7 = b := Option.some.inj e
    rcases hat with hat | hat
    · exact hn (by rw [hat, e2])
    · omega
  have hcell : ∀ b i v, b < w4.heap.size → u.ownBlock ≠ some b → w4.cell? ⟨b, i, none⟩ = some v → w7.cell? ⟨b, i, none⟩ = some v := by
    intro b i v hbl hn hv
    have h1 := bcs (((Below.refl w4.heap.size w4)).alloc (Nat.le_refl _) o) hv
    rw [hg.cell_far ⟨b, i, none⟩ (by simp; omega) (fun e => hn e.symm)]
    exact h1
  refine ⟨by simp [h.1], fun j hj => ?_⟩
  by_cases hjk : j < vs.length
  · obtain ⟨b, cap2, e, hbl, hn, hc⟩ := h.2 j hjk
    exact ⟨b, cap2, by rw [List.getElem_append_left hjk]; exact e, by omega, hne b (by omega) hn, fun i hi => hcell b i _ (by omega) hn (bcs hb (hc i hi))⟩
  · have hjk2 : j = k := by
      have := h.1
      simp at hj
      omega
    subst hjk2
    have hn : u.ownBlock ≠ some g := fun e => by have := hu g e; omega
    refine ⟨g, cap, by rw [List.getElem_append_right (by omega)]; simp, by omega, hne g hg2 hn, fun i hi => hcell g i _ hg2 hn ?_⟩
    have := hr.cells (g := g) rfl i (.int .i64 (U j i)) (by simp [hi])
    rw [Addr.add_lit, Nat.zero_add] at this
    exact this

set_option maxRecDepth 100000 in
set_option maxHeartbeats 2000000 in
/-- besomref12.Next -/
theorem refNext_any (n : Int) (v : Value) (rs : List (List Int)) (w : World) (hs : SlR w v rs) : Calls Tryd.prog 26 #[.int .i64 n, v] w (NextPost n rs w) := by
  have HS := hid hs
  obtain ⟨a, cap, rfl, hll, -⟩ := hs.open
  have HC := hid (refCheckRot_any n _ rs w hs)
  have HR := hid (show nextR n rs = if rotB n rs then (if rs.length = 100 then ([], 6) else ((rowN (usedN rs) n.toNat (List.range n.toNat) 0).map (fun (x : Nat) => (x : Int)), 0)) else ([], 2) from rfl)
  have HRB := hid (show rotB n rs = ((inB n 1 8 && decide (rs.length ≤ 100)) && rs.all (roundB n)) from rfl)
  clear hs
  cases hrb : rotB n rs with
  | false =>
    rw [hrb] at HC HR
    clear hrb
    go_enter Tryd.func26, Tryd.ntmps26
    go_wp2_with fail
    refine HC.out.mono ?_
    rintro e w1 ⟨rfl, d1, rfl⟩
    go_wp2_with fail
    go_ret2
    have hr : nextR n rs = ([], 2) := by rw [HR.out]; rfl
    exact ⟨⟨_, by rw [hr]; rfl, by rw [hr]; exact ⟨none, 0, rfl, by simp, .inl rfl⟩⟩, drewNB (Below.refl _ _) _⟩
  | true =>
    rw [hrb] at HC HR HRB
    have hrr := HRB.out.symm
    simp only [Bool.and_eq_true, decide_eq_true_eq, List.all_eq_true] at hrr
    obtain ⟨⟨hn18, hl100⟩, hall⟩ := hrr
    obtain ⟨m, rfl⟩ : ∃ m : Nat, n = (m : Int) := by simp [inB] at hn18; exact ⟨n.toNat, by omega⟩
    have hm1 : 1 ≤ m := by simp [inB] at hn18; omega
    have hm8 : m ≤ 8 := by simp [inB] at hn18; omega
    have HALL := hid (show ∀ l ∈ rs, l.length = m by
      intro l hl
      have := hall l hl
      simp [roundB, inB] at this
      omega)
    clear hrb hn18 hall
    by_cases h100 : rs.length = 100
    · have h100I : ((rs.length : Int) == 100) = true := by simp; omega
      have H100 := hid h100
      clear h100
      go_enter Tryd.func26, Tryd.ntmps26
      go_wp2_with fail
      refine HC.out.mono ?_
      rintro e w1 ⟨rfl, d1, rfl⟩
      go_wp2_with fail
      go_ret2
      have hr : nextR m rs = ([], 6) := by rw [HR.out]; simp [H100.out]
      exact ⟨⟨_, by rw [hr]; rfl, by rw [hr]; exact ⟨none, 0, rfl, by simp, .inl rfl⟩⟩, drewNB (Below.refl _ _) _⟩
    · have h100I : ((rs.length : Int) == 100) = false := by simp; omega
      have HRR := hid (show nextR m rs = ((rowN (usedN rs) m (List.range m) 0).map (fun (x : Nat) => (x : Int)), 0) by rw [HR.out]; simp [h100])
      have hU := usedN_ok hl100
      have HU := hid hU
      obtain ⟨i0, hi, hz0, hz1, hz2⟩ := info_parts info3
      obtain ⟨i1, hi1, hy0, hy1, hy2⟩ := info_parts info22
      clear hU h100
      go_enter Tryd.func26, Tryd.ntmps26
      go_wp2_with fail
      refine HC.out.mono ?_
      rintro e w1 ⟨rfl, d1, rfl⟩
      have HB1 := hid (drewNB (Below.refl w.heap.size w) d1)
      generalize w.drewN d1 = w1 at *
      clear HC HR HRB
      go_wp2_with fail
      go_loopw [6, 7] (fun u i wr => ∃ (k : Nat) (vs : List Value), k ≤ m ∧ i = .int .i64 k ∧ wr.ownsRow w.heap.size 22 1 u k vs ∧ Below w.heap.size w wr ∧ RowsF wr u vs k (usedN rs) m) (fun _ i _ => m - (intOf i).toNat)
      case atStart => exact ⟨0, [], Nat.zero_le _, rfl, World.ownsRow_nil _ _ _ _, HB1.out, rfl, fun j h => by simp at h⟩
      case round =>
        obtain ⟨k, vs, hk, rfl, hown, hbr, hrf⟩ := hrel
        obtain ⟨w2, rfl⟩ : ∃ w2 : World, w2 = wr := ⟨_, rfl⟩
        have HOWN := hid hown
        have HB := hid hbr
        have HRF := hid hrf
        clear hown hbr hrf
        by_cases hkm : k < m
        · go_wp2_with fail
          go_loopw [8, 9] (fun r i wi => ∃ j : Nat, j ≤ m ∧ i = .int .i64 j ∧ wi.ownsRow w2.heap.size 3 1 r j ((List.range j).map fun i => Value.int .i64 (usedN rs k i)) ∧ Below w2.heap.size w2 wi) (fun _ i _ => m - (intOf i).toNat)
          case atStart => exact ⟨0, Nat.zero_le _, rfl, World.ownsRow_nil _ _ _ _, Below.refl _ _⟩
          case round =>
            obtain ⟨j, hj, rfl, hown, hbr⟩ := hrel
            obtain ⟨w4, rfl⟩ : ∃ w4 : World, w4 = wr := ⟨_, rfl⟩
            have HO4 := hid hown
            have HB4 := hid hbr
            clear hown hbr
            by_cases hjm : j < m
            · have HUS := hid (used_any _ rs k j w4 (HS.out.below (HB.out.trans (HB4.out.mono HB.out.size))) (by omega) (fun l hl => by rw [HALL.out l hl]; exact hkm))
              have HRG := hid (show (List.range (j + 1)).map (fun i => Value.int .i64 (usedN rs k i)) = (List.range j).map (fun i => Value.int .i64 (usedN rs k i)) ++ [Value.int .i64 (usedN rs k j)] by rw [List.range_succ]; simp)
              generalize hux : usedN rs k j = ux at *
              clear hux
              go_wp2_with fail
              refine HUS.out.mono ?_
              rintro e w' ⟨rfl, rfl⟩
              go_wp2_with (at_builtin; refine wpList_append_lies _ rfl _ _ 22 rfl w2.heap.size 3 i0 (.int .i64 0) 1 8 Tryd.underlying22 hi hz0 hz1 hz2 rfl (by omega) u8 j _ rfl (HO4.out.alloc _) ⟨w4.heap.size, 0, none⟩ 1 1 [.int .i64 ux] rfl rfl (cell_one_new _ _ _) (ones _ rfl) (by omega) (by unfold maxLen; omega) (by omega) (by have := HB4.out.size; simp; omega) (w4.heap.size + 1) (by simp) ?_; intro g6 cap6 w6 hown6 hgrow6 hat6 hlt6)
              have hb6 : Below w2.heap.size w2 w6 := by
                have h3 := HB4.out.alloc HB4.out.size (.cells #[.int .i64 ux] 3)
                exact h3.grown hgrow6 h3.size (fun q hq => (HO4.out.lt q hq).1)
              exact ⟨⟨j + 1, by omega, by go_num, by rw [HRG.out]; exact hown6, hb6⟩, by simp [intOf]; omega⟩
            · obtain rfl : j = m := by omega
              obtain ⟨gr, capr, rfl, hgr⟩ := HO4.out.form (by omega)
              clear hgr
              go_wp2_with (at_builtin; refine wpList_append_lies _ rfl _ _ 53 rfl w.heap.size 22 i1 (.slice none 0 0) 1 24 Tryd.underlying53 hi1 hy0 hy1 hy2 rfl (by omega) u6 k _ rfl ((own_below HOWN.out HB4.out).alloc _) ⟨w4.heap.size, 0, none⟩ 1 1 [.slice (some ⟨gr, 0, none⟩) j capr] rfl rfl (cell_one_new _ _ _) (ones _ rfl) (by omega) (by unfold maxLen; omega) (by omega) (by have := HB4.out.size; have := HB.out.size; simp; omega) (w4.heap.size + 1) (by simp) ?_; intro g7 cap7 w7 hown7 hgrow7 hat7 hlt7)
              have hb7 : Below w.heap.size w w7 := by
                have h3 := (HB.out.trans (HB4.out.mono HB.out.size))
                have h4 := h3.alloc h3.size (.cells #[.slice (some ⟨gr, 0, none⟩) j capr] 22)
                exact h4.grown hgrow7 h4.size (fun q hq => (HOWN.out.lt q hq).1)
              have hrf7 := HRF.out.more (n7 := k + 1) (cap7 := cap7) (base := 0) HB4.out (fun q hq => (HOWN.out.lt q hq).2) HO4.out (by omega) hgrow7 hat7 rfl
              exact ⟨⟨k + 1, vs ++ [.slice (some ⟨gr, 0, none⟩) j capr], by omega, by go_num, hown7, hb7, hrf7⟩, by simp [intOf]; omega⟩
        · obtain rfl : k = m := by omega
          have hsq := HRF.out.square HOWN.out (by omega) hm8
          have HBE := hid (refBest_any k (usedN rs) HU.out hm8 k u6 (.slice none 0 0) [] w2 hsq (nil_SlI _) (fun _ => rfl) (by rw [freeN_nil]; simp) (by simp))
          rw [freeN_nil] at HBE
          go_wp2_with fail
          refine HBE.out.mono ?_
          rintro e w5 ⟨v5, rfl, hs5, hb5⟩
          go_wp2_with fail
          go_ret2
          exact ⟨⟨_, by rw [HRR.out]; rfl, by rw [HRR.out]; exact hs5⟩, HB.out.trans (hb5.mono HB.out.size)⟩
end Go.Proofs.YtjjphiecjhijiaaDoor

namespace Go.Proofs.YtjjphiecjhijiaaDoor
open Go.RowKit Go.Maps

def BoolV (v : Value) : Prop := ∃ b : Bool, v = .bool b
set_option maxRecDepth 100000 in
set_option maxHeartbeats 1000000 in
/-- besomlaw12.PlantRotations returns true. -/
theorem rotations_any (n : Int) (v : Value) (rs : List (List Int)) (w : World) (hs : SlR w v rs) (hT : TabW w) : Calls Tryd.prog 7 #[.int .i64 n, v] w (True1 w) := by
  have HS := hid hs
  have HT := hid hT
  obtain ⟨a, cap, rfl, hll, -⟩ := hs.open
  clear hs hT
  generalize hb1 : decide (n > 5) = b1 at *
  generalize hb2 : decide (n ≤ 8) = b2 at *
  generalize hb3 : decide ((rs.length : Int) > 110) = b3 at *
  go_enter Tryd.func7, Tryd.ntmps7
  go_upto_region 1 with fail
  go_cut [23] (fun t wx => BoolV t ∧ wx = w)
  case first =>
    cases b1 <;> cases b2 <;> cases b3
    all_goals
      go_wp2_with fail
      first
        | (go_meet; exact ⟨⟨_, rfl⟩, rfl⟩)
        | (refine (wide_any _ rs w HS.out).mono ?_
           rintro e w' ⟨⟨b, rfl⟩, rfl⟩
           cases b <;> (go_wp2_with fail; go_meet; exact ⟨⟨_, rfl⟩, rfl⟩))
  case rest =>
    obtain ⟨⟨g, rfl⟩, rfl⟩ := hcut
    clear hb1 hb2 hb3 hll
    cases g with
    | true =>
      go_wp2_with fail
      refine (awake_any _ HT.out).mono ?_
      rintro e W2 ⟨rfl, hb2⟩
      have HB2 := hid hb2
      clear hb2
      go_wp2_with fail
      go_ret
      exact ⟨rfl, HB2.out⟩
    | false =>
      go_wp2_with fail
      refine (next_any n _ rs _ HS.out HT.out).mono ?_
      rintro e W1 ⟨⟨v1, rfl, hs1⟩, hb1⟩
      have HS1 := hid hs1
      have HB1 := hid hb1
      clear hs1 hb1
      go_wp2_with fail
      refine (refNext_any n _ rs W1 (HS.out.below HB1.out)).mono ?_
      rintro e W2 ⟨⟨v2, rfl, hs2⟩, hb2⟩
      have HS2 := hid hs2
      have HS1 := hid (HS1.out.below hb2)
      have HB2 := hid (HB1.out.trans (hb2.mono HB1.out.size))
      clear hs2 hb2
      have hee : ((nextR n rs).2 == (nextR n rs).2) = true := by simp
      have hoo : (rotB n rs == rotB n rs) = true := by simp
      have HRF := hid (same_refl (nextR n rs).1)
      generalize (nextR n rs).2 = E at *
      generalize (nextR n rs).1 = R at *
      have HC1 := hid (fun w' h => checkRot_any n (.slice a rs.length cap) rs w' h)
      have HC2 := hid (fun w' h => refCheckRot_any n (.slice a rs.length cap) rs w' h)
      generalize rotB n rs = ok at *
      go_wp2_with fail
      refine (HC1.out W2 (HS.out.below HB2.out)).mono ?_
      rintro e W3 ⟨rfl, hb3⟩
      have HS2 := hid (HS2.out.below hb3)
      have HS1 := hid (HS1.out.below hb3)
      have HB3 := hid (HB2.out.trans (hb3.mono HB2.out.size))
      clear hb3
      go_wp2_with fail
      refine (HC2.out W3 (HS.out.below HB3.out)).mono ?_
      rintro e W4 ⟨rfl, d4, rfl⟩
      have HS2 := hid (HS2.out.drewN d4)
      have HS1 := hid (HS1.out.drewN d4)
      have HB4 := hid (drewNB HB3.out d4)
      generalize W3.drewN d4 = W4 at *
      go_wp2_with fail
      refine (ints_any v1 v2 R R W4 HS1.out HS2.out).mono ?_
      rw [HRF.out]
      rintro e W5 ⟨rfl, hb5⟩
      have HB5 := hid (HB4.out.trans (hb5.mono HB4.out.size))
      clear hb5
      go_wp2_with fail
      refine (awake_any W5 (HT.out.below' HB5.out)).mono ?_
      rintro e W6 ⟨rfl, hb6⟩
      have HB6 := hid (HB5.out.trans (hb6.mono HB5.out.size))
      clear hb6
      go_wp2_with fail
      go_ret
      exact ⟨rfl, HB6.out⟩
end Go.Proofs.YtjjphiecjhijiaaDoor

