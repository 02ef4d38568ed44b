/- sheet.Count: the index of the first rival, and the mirror. -/
import Derived.Test.YtolnhicngepnnaaS9
namespace Go.Proofs.Ytolnhicngepnnaa
open Go.RowKit

/-- A closure over a stone's number: is it of another team than the cell's? -/
theorem rival_any (bS bT : Nat) (v : Value) (l : List StoneD) (tm : Int) (k : Nat) (hk : k < l.length) (w : World) (hs : SlS w v l) (hc : w.cell? ⟨bS, 0, none⟩ = some v) (ht : w.cell? ⟨bT, 0, none⟩ = some (.int .i64 tm)) :
    Calls Try.prog 27 #[.int .i64 (k : Int), .pointer (some ⟨bS, 0, none⟩), .pointer (some ⟨bT, 0, none⟩)] w fun e w' => e = .returned (.bool (decide ((stAt l k).team ≠ tm))) ∧ Below w.heap.size w w' := by
  obtain ⟨a, cap, rfl, hll, hcs⟩ := hs.open
  obtain ⟨b, off, rfl, hbl, hx⟩ := hcs k hk
  have i0 := (hx k hk).1
  have ek : l[k] = stAt l k := by simp [stAt, List.getD_eq_getElem?_getD, hk]
  rw [ek] at i0
  generalize (stAt l k).team = tk at *
  clear hs hcs hx ek
  have k0 : (0 : Int) ≤ (k : Int) := by omega
  have k1 : (k : Int) < (l.length : Int) := by omega
  go_enter Try.func27, Try.ntmps27
  go_upto_region 1 with fail
  go_region
  all_goals
    go_wp2_with fail
    go_ret
    exact ⟨by by_cases h : tk = tm <;> simp [h], by repeat' (first | exact Below.refl _ _ | apply Below.drew)⟩
/-- The first index of a row of ints whose number a closure says yes to. -/
theorem index_nats (p : Nat → Bool) (c1 c2 : Value) (base : Nat) (v : Value) (a : List Nat) (w : World) (ha : a.length ≤ 1000) (hown : w.ownsRow base 3 1 v a.length (natsV a)) 
    (hf : ∀ x ∈ a, ∀ w1, Below w.heap.size w w1 → Calls Try.prog 27 #[.int .i64 (x : Int), c1, c2] w1 fun e w2 => e = .returned (.bool (p x)) ∧ Below w1.heap.size w1 w2) :
    Calls Try.prog 26 #[v, .func (.func 27) #[] #[c1, c2]] w fun e w' => e = .returned (.int .i64 (idxOf p a)) ∧ Below w.heap.size w w' := by
  obtain ⟨ad, cap, rfl, hcap⟩ := own_cap hown
  have HOW := hid hown
  have HF := hid hf
  clear hf hown
  go_enter Try.func26, Try.ntmps26
  go_wp2
  go_loopw [8] (fun i wr => ∃ k : Nat, k ≤ a.length ∧ i = .int .i64 k ∧ Below w.heap.size w wr ∧ ∀ j (h : j < a.length), j < k → p a[j] = false) (fun i _ => a.length - (intOf i).toNat)
  case atStart => exact ⟨0, Nat.zero_le _, rfl, Below.refl _ _, by omega⟩
  case round =>
    obtain ⟨k, hk, rfl, hb, hno⟩ := hrel
    have HN := hid hno
    clear hno
    by_cases hlt : k < a.length
    · obtain ⟨g, cap2, e, -, -⟩ := HOW.out.form (by omega)
      obtain ⟨rfl, -, rfl⟩ := Value.slice.inj e
      have hgl := (HOW.out.lt g rfl).2
      have hx0 : wr.cell? ⟨g, k, none⟩ = some (.int .i64 (a[k] : Nat)) := by
        refine (hb.cell (p := ⟨g, k, none⟩) hgl).trans ?_
        rw [HOW.out.cellAt k (by omega)]
        simp [natsV, hlt]
      have hcall := hid (HF.out a[k] (List.getElem_mem _) wr hb)
      generalize hxe : a[k] = x at *
      have HX := hid hxe
      clear hxe
      go_wp2_with fail
      refine hcall.out.mono ?_
      rintro e w' ⟨rfl, hb2⟩
      clear hcall
      by_cases hp : p x = true
      · go_wp2
        go_ret
        exact ⟨ret_int (idxOf_hit p a k hlt HN.out (by rw [HX.out]; exact hp)).symm, hb.trans (hb2.mono hb.size)⟩
      · have hp' : p x = false := by simpa using hp
        go_wp2
        go_roundw
        case rel =>
          refine ⟨k + 1, by omega, by go_num, hb.trans (hb2.mono hb.size), ?_⟩
          intro j hj hjk
          by_cases e : j = k
          · subst e; rw [HX.out]; exact hp'
          · exact HN.out j hj (by omega)
        case measure => simp [intOf]; omega
    · go_wp2
      go_ret
      have hkl : k = a.length := by omega
      exact ⟨ret_int (idxOf_none p a (fun j hj => HN.out j hj (by omega))).symm, hb⟩
/-- How many of the first f stones of a row are nearer than s. -/
def leadS (l : List StoneD) (a : List Nat) (s : Int) (f : Nat) : Nat := ((a.take f).takeWhile (fun k => decide (sqS l k < s))).length
/-- What Count answers: team, points, fault. -/
def countR (l : List StoneD) : Int × Int × Int :=
  if checkR l = false then (0, 0, 2) else
  match nearR l with
  | [] => (-1, 0, 0)
  | k0 :: ks =>
    let f := idxOf (fun k => decide ((stAt l k).team ≠ (stAt l k0).team)) (k0 :: ks)
    if f < 0 then ((stAt l k0).team, ((k0 :: ks).length : Int), 0) else
    let j := leadS l (k0 :: ks) (sqS l ((k0 :: ks).getD f.toNat 0)) f.toNat
    if j = 0 then (-1, 0, 0) else ((stAt l k0).team, (j : Int), 0)
theorem tw_len {α : Type} (p : α → Bool) (d : α) : ∀ (b : List α) (j : Nat), j ≤ b.length → (∀ i, i < j → p (b.getD i d) = true) → (j < b.length → p (b.getD j d) = false) → (b.takeWhile p).length = j
  | [], j, h, _, _ => by simp at h; simp [h]
  | x :: b, 0, _, _, h2 => by
    have := h2 (by simp)
    simp at this
    simp [List.takeWhile, this]
  | x :: b, j + 1, h, h1, h2 => by
    have h0 := h1 0 (by omega)
    simp at h0
    simp only [List.takeWhile, h0, List.length_cons]
    rw [tw_len p d b j (by simpa using h) (fun i hi => by simpa using h1 (i + 1) (by omega)) (fun hj => by simpa using h2 (by simpa using hj))]
theorem leadS_step (l : List StoneD) (a : List Nat) (s : Int) (f j : Nat) (hf : f ≤ a.length) (hj : j ≤ f) (hl : ∀ i, i < j → sqS l (a.getD i 0) < s) (h : j < f → ¬ sqS l (a.getD j 0) < s) : leadS l a s f = j := by
  have hg : ∀ i, i < f → (a.take f).getD i 0 = a.getD i 0 := fun i hi => by simp [List.getD_eq_getElem?_getD, hi]
  refine tw_len _ 0 (a.take f) j (by simp; omega) (fun i hi => ?_) (fun hj2 => ?_)
  · rw [hg i (by omega)]
    simpa using hl i hi
  · have hjf : j < f := by simp at hj2; omega
    rw [hg j hjf]
    simpa using h hjf
end Go.Proofs.Ytolnhicngepnnaa
