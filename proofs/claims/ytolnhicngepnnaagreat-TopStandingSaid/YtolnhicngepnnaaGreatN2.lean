/- skip: rivals; what is answered does not matter here. -/
import Derived.Test.YtolnhicngepnnaaGreatN1
namespace Go.Proofs.YtolnhicngepnnaaGreat
open Go.RowKit

def RetB (e : Ending) : Prop := e = .returned (.bool true) ∨ e = .returned (.bool false)
def RetI (e : Ending) : Prop := ∃ i : Int, e = .returned (.int .i64 i)
theorem RetB.of (b : Bool) : RetB (.returned (.bool b)) := by cases b; exact .inr rfl; exact .inl rfl
/-- A slice of slices of ints. -/
def SlR (w : World) (v : Value) (ls : List (List Int)) : Prop :=
  ∃ a cap, v = .slice a ls.length cap ∧ ls.length ≤ 140737488351232 ∧ (ls.length = 0 ∨ ∃ b off, a = some ⟨b, off, none⟩ ∧ b < w.heap.size ∧ ∀ i (h : i < ls.length), ∃ u, w.cell? ⟨b, off + i, none⟩ = some u ∧ SlI w u ls[i])
theorem SlR.below {w w' : World} {v : Value} {ls : List (List Int)} (h : SlR w v ls) (hb : Below w.heap.size w w') : SlR w' v ls := by
  obtain ⟨a, cap, rfl, hn, hc⟩ := h
  refine ⟨a, cap, rfl, hn, hc.imp id ?_⟩
  rintro ⟨b, off, rfl, hlt, hc⟩
  refine ⟨b, off, rfl, Nat.lt_of_lt_of_le hlt hb.size, fun i hi => ?_⟩
  obtain ⟨u, hu, hs⟩ := hc i hi
  exact ⟨u, bcs hb hu, hs.below hb⟩
theorem SlR.open {w : World} {v : Value} {ls : List (List Int)} (h : SlR w v ls) :
    ∃ a cap, v = .slice a ls.length cap ∧ ls.length ≤ 140737488351232 ∧ ∀ k, (hk : k < ls.length) → ∃ b off a2 c2, a = some ⟨b, off, none⟩ ∧ w.cell? ⟨b, off + k, none⟩ = some (.slice a2 ls[k].length c2) ∧ SlI w (.slice a2 ls[k].length c2) ls[k] := by
  obtain ⟨a, cap, rfl, hn, hc⟩ := h
  refine ⟨a, cap, rfl, hn, fun k hk => ?_⟩
  rcases hc with hc | ⟨b, off, rfl, hlt, hc⟩
  · omega
  · obtain ⟨u, hu, hs⟩ := hc k hk
    obtain ⟨a2, c2, rfl, -, -⟩ := hs.open
    exact ⟨b, off, a2, c2, rfl, hu, hs⟩
theorem within190_any (n a b : Int) (w : World) : Calls Tryz.prog 190 #[.int .i64 n, .int .i64 a, .int .i64 b] w fun e w' => e = .returned (.bool (inB n a b)) ∧ w' = w := by
  go_enter Tryz.func190, Tryz.ntmps190
  go_wp2
  all_goals (go_ret; exact ⟨ret_bool (by simp [inB, *]; try omega), rfl⟩)
theorem odd203_any (x : Int) (w : World) : Calls Tryz.prog 203 #[.int .i64 x] w fun e w' => RetB e ∧ w' = w := by
  have H1 := hid (fun W => within190_any x 0 1000000 W)
  generalize inB x 0 1000000 = b at *
  go_enter Tryz.func203, Tryz.ntmps203
  go_wp2_with fail
  refine (H1.out _).mono ?_
  rintro e w' ⟨rfl, rfl⟩
  go_wp2_with fail
  go_ret
  exact ⟨RetB.of _, rfl⟩
theorem index145_any (v : Value) (l : List Int) (w : World) (hs : SlI w v l) :
    Calls Tryz.prog 145 #[v, .func (.func 203) #[] #[]] w fun e w' => RetI e ∧ w' = w := by
  obtain ⟨a, cap, rfl, hl, hc⟩ := hs.open
  clear hs
  have HF := hid (fun (x : Int) (W : World) => odd203_any x W)
  have HC := hid hc
  clear hc
  go_enter Tryz.func145, Tryz.ntmps145
  go_wp2
  go_loopw [8] (fun i wr => ∃ k : Nat, k ≤ l.length ∧ i = .int .i64 k ∧ wr = w) (fun i _ => l.length - (intOf i).toNat)
  case atStart => exact ⟨0, Nat.zero_le _, rfl, rfl⟩
  case round =>
    obtain ⟨k, hk, rfl, rfl⟩ := hrel
    by_cases hlt : k < l.length
    · have hltI : (k : Int) < (l.length : Int) := by omega
      obtain ⟨b, off, rfl, hbl, hc⟩ := HC.out k hlt
      have hx0 := hc k hlt
      clear hc HC
      generalize l[k] = x at *
      go_wp2_with fail
      refine (HF.out x wr).mono ?_
      rintro e w' ⟨rfl | rfl, rfl⟩
      · go_wp2_with fail
        go_ret
        exact ⟨⟨_, rfl⟩, rfl⟩
      · go_wp2_with fail
        exact ⟨⟨k + 1, hlt, by go_num, by first | rfl | trivial⟩, by simp only [intOf]; omega⟩
    · have hltI : ¬ (k : Int) < (l.length : Int) := by omega
      go_wp2_with fail
      go_ret
      exact ⟨⟨_, rfl⟩, by first | rfl | trivial⟩
theorem any89_any (v : Value) (l : List Int) (w : World) (hs : SlI w v l) : Calls Tryz.prog 89 #[v, .func (.func 203) #[] #[]] w fun e w' => RetB e ∧ w' = w := by
  have H1 := hid (index145_any v l w hs)
  clear hs
  go_enter Tryz.func89, Tryz.ntmps89
  go_wp2_with fail
  refine H1.out.mono ?_
  rintro e w' ⟨⟨i, rfl⟩, rfl⟩
  go_wp2_with fail
  go_ret
  exact ⟨RetB.of _, rfl⟩
theorem counted185_any (v : Value) (l : List Int) (w : World) (hs : SlI w v l) : Calls Tryz.prog 185 #[v] w fun e w' => ((e = .returned (.bool true) ∧ 1 ≤ l.length ∧ l.length ≤ 49) ∨ e = .returned (.bool false)) ∧ w' = w := by
  have H1 := hid (any89_any v l w hs)
  have H2 := hid (fun W => within190_any (l.length : Int) 1 49 W)
  have H3 := hid (fun h : inB (l.length : Int) 1 49 = true => (by simpa [inB] using h : (1 : Int) ≤ l.length ∧ (l.length : Int) ≤ 49))
  obtain ⟨a, cap, rfl, hl, -⟩ := hs.open
  clear hs
  generalize inB (l.length : Int) 1 49 = b at *
  go_enter Tryz.func185, Tryz.ntmps185
  go_wp2_with fail
  refine (H2.out _).mono ?_
  rintro e w' ⟨rfl, rfl⟩
  cases b with
  | false =>
    go_wp2_with fail
    go_ret
    exact ⟨.inr rfl, rfl⟩
  | true =>
    go_wp2_with fail
    refine H1.out.mono ?_
    rintro e w' ⟨rfl | rfl, rfl⟩
    · go_wp2_with fail
      go_ret
      exact ⟨.inr rfl, rfl⟩
    · go_wp2_with fail
      go_ret
      exact ⟨.inl ⟨rfl, by have := H3.out; simp at this; omega, by have := H3.out; simp at this; omega⟩, rfl⟩
theorem event186_nil (n : Int) (w : World) : Calls Tryz.prog 186 #[.slice none 0 0, .int .i64 n] w fun e w' => e = .returned (.bool true) ∧ w' = w := by
  go_enter Tryz.func186, Tryz.ntmps186
  go_wp2_with fail
  go_loopw [9] (fun i wr => i = .int .i64 0 ∧ wr = w) (fun _ _ => 0)
  case atStart => exact ⟨rfl, rfl⟩
  case round =>
    obtain ⟨rfl, rfl⟩ := hrel
    go_wp2_with fail
    go_ret
    exact ⟨rfl, by first | rfl | trivial⟩
theorem info_parts {P : Program} {t : TypeId} {z : Value} {s b : Nat} (h : (P.info? t).map (fun i => (i.zero, i.size, i.bytes)) = some (some z, s, b)) : ∃ i, P.info? t = some i ∧ i.zero = some z ∧ i.size = s ∧ i.bytes = b := by
  obtain ⟨i, h1, h2⟩ := Option.map_eq_some_iff.1 h
  simp only [Prod.mk.injEq] at h2
  exact ⟨i, h1, h2.1, h2.2.1, h2.2.2⟩
theorem info3 : (Tryz.prog.info? 3).map (fun i => (i.zero, i.size, i.bytes)) = some (some (.int .i64 0), 1, 8) := by kernel_rfl
theorem make29 (w : World) (n : Nat) (hn : n ≤ 1000000) : ∃ w', (Instr.makeSlice 29 (.int .i64 (n : Int)) (.int .i64 (n : Int))).run Tryz.prog w = .ok (.slice (some ⟨w.heap.size, 0, none⟩) n n) w' ∧
    w'.ownsRow w.heap.size 3 1 (.slice (some ⟨w.heap.size, 0, none⟩) n n) n ((List.replicate n (0 : Int)).map (.int .i64)) ∧ w.grownBy w' none ∧ w.heap.size < w'.heap.size := by
  obtain ⟨i0, hi, hz0, hz1, hz2⟩ := info_parts info3
  obtain ⟨w', h1, h2, h3⟩ := run_makeSlice_full (P := Tryz.prog) (w := w) w.heap.size 29 3 i0 (.int .i64 0) 1 Tryz.underlying29 hi hz0 hz1 .i64 .i64 n (by omega) (by rw [hz2]; omega) (by unfold maxLen; omega) (Nat.le_refl _)
  refine ⟨w', h1, ?_, h3, (h2.lt _ rfl).2⟩
  have : (madeCells (Value.cells (.int .i64 0)) (n * 1)).toList = (List.replicate n (0 : Int)).map (.int .i64) := by
    apply List.ext_getElem
    · simp [madeCells]
    · intro i h1 h2
      simp [madeCells, Value.cells, Nat.mod_one]
  rw [← this]; exact h2

set_option maxRecDepth 100000 in
set_option maxHeartbeats 1000000 in
theorem given159_any (v : Value) (l : List Int) (w : World) (hs : SlI w v l) : Calls Tryz.prog 159 #[v, .slice none 0 0] w fun e w' => (∃ a n c i, e = .returned (.tuple #[.slice a n c, .int .i64 i])) ∧ Below w.heap.size w w' := by
  have H1 := hid (counted185_any v l w hs)
  have H2 := hid (fun n W => event186_nil n W)
  obtain ⟨a, cap, rfl, hl, -⟩ := hs.open
  clear hs
  go_enter Tryz.func159, Tryz.ntmps159
  go_wp2_with fail
  refine H1.out.mono ?_
  rintro e w' ⟨⟨rfl, l1, l2⟩ | rfl, rfl⟩
  · go_wp2_with fail
    refine (H2.out _ _).mono ?_
    rintro e w' ⟨rfl, rfl⟩
    obtain ⟨w5, hmk, -, hg5, -⟩ := make29 w' l.length (by omega)
    have HB5 := hid (show Below w'.heap.size w' w5 from (Below.refl _ _).grown hg5 (Nat.le_refl _) (fun j e => by cases e))
    clear hg5
    go_wp2_with fail
    go_loopw [24] (fun i wr => i = .int .i64 0 ∧ wr = w5) (fun _ _ => 0)
    case atStart => exact ⟨rfl, rfl⟩
    case round =>
      obtain ⟨rfl, rfl⟩ := hrel
      go_wp2_with fail
      go_ret2
      exact ⟨⟨_, _, _, _, rfl⟩, HB5.out⟩
  · go_wp2_with fail
    go_ret2
    exact ⟨⟨_, _, _, _, rfl⟩, Below.refl _ _⟩
theorem counted122_any (v : Value) (l : List Int) (w : World) (hs : SlI w v l) : Calls Tryz.prog 122 #[v, .int .i64 17] w fun e w' => RetB e ∧ Below w.heap.size w w' := by
  have H1 := hid (given159_any v l w hs)
  obtain ⟨a, cap, rfl, hl, -⟩ := hs.open
  clear hs
  go_enter Tryz.func122, Tryz.ntmps122
  go_wp2_with fail
  refine H1.out.mono ?_
  rintro e w' ⟨⟨b, n, c, i, rfl⟩, hb⟩
  have HB := hid hb
  clear hb H1
  by_cases hi : i = 0
  · subst hi
    go_wp2_with fail
    go_ret
    exact ⟨RetB.of _, HB.out⟩
  · go_wp2_with fail
    go_ret
    exact ⟨RetB.of _, HB.out⟩
theorem odd121_any (v : Value) (l : List Int) (w : World) (hs : SlI w v l) : Calls Tryz.prog 121 #[v] w fun e w' => RetB e ∧ Below w.heap.size w w' := by
  have H1 := hid (counted122_any v l w hs)
  obtain ⟨a, cap, rfl, hl, -⟩ := hs.open
  clear hs
  go_enter Tryz.func121, Tryz.ntmps121
  go_wp2_with fail
  refine H1.out.mono ?_
  rintro e w' ⟨rfl | rfl, hb⟩
  · go_wp2_with fail
    go_ret
    exact ⟨RetB.of _, hb⟩
  · go_wp2_with fail
    go_ret
    exact ⟨RetB.of _, hb⟩
theorem index158_any (v : Value) (ls : List (List Int)) (w : World) (hs : SlR w v ls) :
    Calls Tryz.prog 158 #[v, .func (.func 121) #[] #[]] w fun e w' => RetI e ∧ Below w.heap.size w w' := by
  obtain ⟨a, cap, rfl, hl, hc⟩ := hs.open
  clear hs
  have HF := hid (fun (u : Value) (x : List Int) (W : World) h => odd121_any u x W h)
  have HC := hid hc
  clear hc
  go_enter Tryz.func158, Tryz.ntmps158
  go_wp2
  go_loopw [8] (fun i wr => ∃ k : Nat, k ≤ ls.length ∧ i = .int .i64 k ∧ Below w.heap.size w wr) (fun i _ => ls.length - (intOf i).toNat)
  case atStart => exact ⟨0, Nat.zero_le _, rfl, Below.refl _ _⟩
  case round =>
    obtain ⟨k, hk, rfl, hb⟩ := hrel
    have HB := hid hb
    clear hb
    by_cases hlt : k < ls.length
    · have hltI : (k : Int) < (ls.length : Int) := by omega
      obtain ⟨b, off, a2, c2, rfl, hx, hsx⟩ := HC.out k hlt
      have hx0 := bcs HB.out hx
      have HX := hid (SlI.below hsx HB.out)
      clear hx hsx HC
      have HCL := hid (HF.out _ _ wr HX.out)
      clear HX
      go_wp2_with fail
      refine HCL.out.mono ?_
      rintro e w' ⟨rfl | rfl, hb2⟩
      · go_wp2_with fail
        go_ret
        exact ⟨⟨_, rfl⟩, HB.out.trans (hb2.mono HB.out.size)⟩
      · have HB2 := hid (HB.out.trans (hb2.mono HB.out.size))
        clear hb2 hx0
        go_wp2_with fail
        exact ⟨⟨k + 1, hlt, by go_num, HB2.out⟩, by simp only [intOf]; omega⟩
    · have hltI : ¬ (k : Int) < (ls.length : Int) := by omega
      go_wp2_with fail
      go_ret
      exact ⟨⟨_, rfl⟩, HB.out⟩
theorem any120_any (v : Value) (ls : List (List Int)) (w : World) (hs : SlR w v ls) : Calls Tryz.prog 120 #[v, .func (.func 121) #[] #[]] w fun e w' => RetB e ∧ Below w.heap.size w w' := by
  have H1 := hid (index158_any v ls w hs)
  obtain ⟨a, cap, rfl, hl, -⟩ := hs.open
  clear hs
  go_enter Tryz.func120, Tryz.ntmps120
  go_wp2_with fail
  refine H1.out.mono ?_
  rintro e w' ⟨⟨i, rfl⟩, hb⟩
  go_wp2_with fail
  go_ret
  exact ⟨RetB.of _, hb⟩
end Go.Proofs.YtolnhicngepnnaaGreat
