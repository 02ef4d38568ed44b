/- measure.Exact. -/
import Derived.Test.YtolnhicngepnnaaM1
namespace Go.Proofs.Ytolnhicngepnnaa
open Go.RowKit

theorem info38 : (Try.prog.info? 38).map (fun i => (i.zero, i.size, i.bytes)) = some (some (.agg #[.int .i64 0, .int .i64 0, .int .i64 0]), 3, 24) := by kernel_rfl
theorem made_rd (w : World) (base : Nat) (m : Mach) (hb : base ≤ w.heap.size) : (w.alloc (.cells #[.int .i64 m.cold, .int .i64 m.power, .int .i64 m.start] 38)).ownsRow base 38 3 (.slice (some ⟨w.heap.size, 0, none⟩) 1 1) 1 m.cells :=
  ⟨rfl, .inr ⟨w.heap.size, 1, _, rfl, hb, heap_alloc_new w _, Nat.le_refl _, by decide, rfl, rfl⟩⟩
theorem cellsM_len : ∀ l : List Mach, (l.flatMap Mach.cells).length = l.length * 3
  | [] => rfl
  | x :: l => by rw [List.flatMap_cons, List.length_append, cellsM_len l, List.length_cons]; simp only [Mach.cells, List.length_cons, List.length_nil]; omega
theorem SlM_of_own {w : World} {base : Nat} {v : Value} {l : List Mach} (h : w.ownsRow base 38 3 v l.length (l.flatMap Mach.cells)) (hn : l.length ≤ 140737488351232) : SlM w v l := by
  have hlen := cellsM_len l
  rcases h.2 with ⟨rfl, h0⟩ | ⟨g, cap, cur, rfl, hg, hh, hnc, hcm, hcs, htake⟩
  · exact ⟨none, 0, by rw [h0], hn, .inl h0⟩
  · refine ⟨_, cap, rfl, hn, .inr ⟨g, 0, rfl, (Array.getElem?_eq_some_iff.1 hh).1, fun i hi => ?_⟩⟩
    rw [hlen] at hi
    rw [Nat.zero_add, h.cellAt i hi]
    exact List.getElem?_eq_getElem (by rw [hlen]; exact hi)
theorem own_belowR {w w' : World} {base sz n : Nat} {e : TypeId} {v : Value} {xs : List Value} (h : w.ownsRow base e sz v n xs) (hb : Below w.heap.size w w') : w'.ownsRow base e sz v n xs :=
  own_same h fun k _ _ ho _ => hb.block k (Array.getElem?_eq_some_iff.1 ho).1
/-- A stone's exact reading. -/
def rdOf (k : Nat) (s : StoneD) : Mach := ⟨(k : Int), valX (lenR 1 s.x s.y), valX (lenR 2 s.x s.y)⟩
def exTo (l : List StoneD) (k : Nat) : List Mach := (List.range k).map fun i => rdOf i (stAt l i)
theorem exTo_len (l : List StoneD) (k : Nat) : (exTo l k).length = k := by simp [exTo]
theorem exTo_succ (l : List StoneD) (k : Nat) : exTo l (k + 1) = exTo l k ++ [rdOf k (stAt l k)] := by simp [exTo, List.range_succ]
/-- How Exact ends. -/
def ExPost (l : List StoneD) (w : World) (e : Ending) (w' : World) : Prop :=
  (if mCheckR l = true then ∃ v, e = .returned (.tuple #[v, .int .i64 0]) ∧ w'.ownsRow w.heap.size 38 3 v l.length ((exTo l l.length).flatMap Mach.cells) else e = .returned (.tuple #[.slice none 0 0, .int .i64 2])) ∧ Below w.heap.size w w'
set_option maxRecDepth 100000 in
set_option maxHeartbeats 4000000 in
theorem exact_any (v : Value) (l : List StoneD) (w : World) (hs : SlS w v l) : Calls Try.prog 6 #[v] w (ExPost l w) := by
  have HCK := hid (mcheck_any v l w hs)
  obtain ⟨a, cap, rfl, hll, hc⟩ := hs.open
  have HC := hid hc
  clear hc hs
  have HP := hid (show ∀ e w', ExPost l w e w' = ((if mCheckR l = true then ∃ v, e = .returned (.tuple #[v, .int .i64 0]) ∧ w'.ownsRow w.heap.size 38 3 v l.length ((exTo l l.length).flatMap Mach.cells) else e = .returned (.tuple #[.slice none 0 0, .int .i64 2])) ∧ Below w.heap.size w w') from fun _ _ => rfl)
  have HL16 := hid (show mCheckR l = true → l.length ≤ 16 from fun h => by
    simp only [mCheckR, Bool.and_eq_true, decide_eq_true_eq] at h
    exact h.1)
  generalize ExPost l w = POST at *
  generalize mCheckR l = ok at *
  cases ok with
  | false =>
    have HC2 := hid (show Calls Try.prog 15 #[.slice a l.length cap] w fun e w' => e = .returned (.int .i64 2) ∧ Below w.heap.size w w' from HCK.out)
    clear HCK
    go_enter Try.func6, Try.ntmps6
    go_wp2_with fail
    refine HC2.out.mono ?_
    rintro e w1 ⟨rfl, hb1⟩
    go_wp2_with fail
    rw [HP.out]
    refine ⟨?_, hb1⟩
    rw [if_neg (by simp)]
    rfl
  | true =>
    have h16 := HL16.out rfl
    have HC2 := hid (show Calls Try.prog 15 #[.slice a l.length cap] w fun e w' => e = .returned (.int .i64 0) ∧ Below w.heap.size w w' from HCK.out)
    go_enter Try.func6, Try.ntmps6
    go_wp2_with fail
    refine HC2.out.mono ?_
    rintro e w1 ⟨rfl, hb1⟩
    have HB1 := hid hb1
    clear hb1 HCK HC2
    go_wp2_with fail
    go_loopw [5, 19] (fun x z wq => ∃ k : Nat, k ≤ l.length ∧ z = .int .i64 k ∧ wq.ownsRow w.heap.size 38 3 x (exTo l k).length ((exTo l k).flatMap Mach.cells) ∧ Below w.heap.size w wq) (fun _ z _ => l.length - (intOf z).toNat)
    case atStart => exact ⟨0, Nat.zero_le _, rfl, World.ownsRow_nil _ _ _ _, HB1.out⟩
    case round =>
      obtain ⟨k, hk, rfl, hrow, hb⟩ := hrel
      have HB := hid hb
      have hbs := hb.size
      have hel := exTo_len l k
      by_cases hlt : k < l.length
      · have hltI : (k : Int) < (l.length : Int) := by omega
        obtain ⟨b, off, rfl, hbl, hc⟩ := HC.out k hlt
        have hx0 := (hb.cell (p := ⟨b, off + k * 4, none⟩) hbl).trans (hc k hlt).1
        have hx1 := (hb.cell (p := ⟨b, off + k * 4 + 1, none⟩) hbl).trans (hc k hlt).2.1
        have hx2 := (hb.cell (p := ⟨b, off + k * 4 + 2, none⟩) hbl).trans (hc k hlt).2.2.1
        have hx3 := (hb.cell (p := ⟨b, off + k * 4 + 3, none⟩) hbl).trans (hc k hlt).2.2.2
        have hxe : l[k] = stAt l k := by simp [stAt, List.getD_eq_getElem?_getD, hlt]
        have HES := hid (exTo_succ l k)
        have HRD := hid (show rdOf k (stAt l k) = ⟨(k : Int), valX (lenR 1 (stAt l k).x (stAt l k).y), valX (lenR 2 (stAt l k).x (stAt l k).y)⟩ from rfl)
        rw [hxe] at hx0 hx1 hx2 hx3
        have HLE := hid (fun how W => length16_any (stAt l k).x (stAt l k).y how W)
        clear hc hxe HC hb
        generalize stAt l k = x at *
        obtain ⟨W1, hW1⟩ : ∃ W1, wr.alloc (.cells #[.int .i64 x.team, .int .i64 x.n, .int .i64 x.x, .int .i64 x.y] 49) = W1 := ⟨_, rfl⟩
        have hz1 : W1.heap.size = wr.heap.size + 1 := by rw [← hW1]; simp
        have HN1 := hid (show W1.heap[wr.heap.size]? = some (.cells #[.int .i64 x.team, .int .i64 x.n, .int .i64 x.x, .int .i64 x.y] 49 (0, 0)) by rw [← hW1]; exact heap_alloc_new wr _)
        have HBW := hid (show Below wr.heap.size wr W1 by rw [← hW1]; exact (Below.refl _ _).alloc (Nat.le_refl _) _)
        have HW1 := hid hW1
        clear hW1
        have HD := hid (HLE.out 1)
        have HU := hid (HLE.out 2)
        generalize valX (lenR 1 x.x x.y) = lo at *
        generalize valX (lenR 2 x.x x.y) = hi at *
        generalize errX (lenR 1 x.x x.y) = e1 at *
        generalize errX (lenR 2 x.x x.y) = e2 at *
        go_wp2_with fail
        rw [HW1.out]
        refine (HD.out _).mono ?_
        rintro e w2 ⟨rfl, hb2⟩
        have h2 := (hb2.block wr.heap.size (by omega)).trans HN1.out
        have q0 : w2.cell? ⟨wr.heap.size, 2, none⟩ = some (.int .i64 x.x) := by simp [World.cell?, h2]
        have q1 : w2.cell? ⟨wr.heap.size, 3, none⟩ = some (.int .i64 x.y) := by simp [World.cell?, h2]
        have HB2 := hid (btrans HBW.out (by omega) hb2)
        clear h2 hb2 HBW HW1 HN1 HLE HD
        go_wp2_with fail
        refine (HU.out _).mono ?_
        rintro e w3 ⟨rfl, hb3⟩
        have HB3 := hid (HB2.out.trans (hb3.mono HB2.out.size))
        have HR3 := hid (own_belowR hrow HB3.out)
        have HX3 := hid (HB.out.trans (HB3.out.mono HB.out.size))
        have hbs3 := HX3.out.size
        clear hb3 HB2 HU hrow q0 q1 hx0 hx1 hx2 hx3
        obtain ⟨i0, hinf, hz0, hz1, hz2⟩ := info_parts info38
        have hl2 : (exTo l k).length ≤ 20 := by omega
        generalize exTo l k = jq at *
        go_wp2_with (at_builtin; refine wpList_append_own _ rfl _ _ 32 rfl w.heap.size 38 i0 (.agg #[.int .i64 0, .int .i64 0, .int .i64 0]) 3 24 Try.underlying32 hinf hz0 hz1 hz2 rfl (by decide) _ _ _ rfl (HR3.out.alloc _) ⟨w3.heap.size, 0, none⟩ 1 1 [.int .i64 (k : Int), .int .i64 lo, .int .i64 hi] rfl rfl ((made_rd w3 w.heap.size ⟨(k : Int), lo, hi⟩ hbs3).cells rfl) (by intro u hu; simp at hu; rcases hu with rfl | rfl | rfl <;> rfl) (by unfold maxLen; omega) (by omega) (by simp; omega) ?_; intro v' w5 hown5 hgrow5 _)
        refine ⟨⟨k + 1, hlt, by go_num, ?_, ?_⟩, by simp only [intOf]; omega⟩
        · rw [HES.out, HRD.out, List.flatMap_append, List.length_append]
          simpa [Mach.cells] using hown5
        · exact (HX3.out.alloc hbs3 _).grown hgrow5 (by simp; omega) (fun q e => (HR3.out.lt q e).1)
      · have hltI : ¬ (k : Int) < (l.length : Int) := by omega
        obtain rfl : k = l.length := by omega
        have HRW := hid hrow
        go_wp2_with fail
        rw [HP.out]
        refine ⟨?_, HB.out⟩
        show ∃ v, _
        have := HRW.out
        rw [hel] at this
        exact ⟨_, rfl, this⟩
end Go.Proofs.Ytolnhicngepnnaa
