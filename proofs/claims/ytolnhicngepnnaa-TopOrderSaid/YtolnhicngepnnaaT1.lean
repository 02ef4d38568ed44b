/- TopOrder walked. -/
import Derived.Test.YtolnhicngepnnaaM4
import Derived.BigRegion
import Derived.Deep.DeepCutAuto
namespace Go.Proofs.Ytolnhicngepnnaa
open Go.RowKit

/-- A slice of the errors. -/
def SlE (w : World) (v : Value) (l : List Int) : Prop := SlV w v l.length (l.map (.int .i16))
theorem SlE.open {w : World} {v : Value} {l : List Int} (h : SlE w v l) :
    ∃ a cap, v = .slice a l.length cap ∧ l.length ≤ 140737488351232 ∧ ∀ k, k < l.length → ∃ b off, a = some ⟨b, off, none⟩ ∧ b < w.heap.size ∧ ∀ j (h : j < l.length), w.cell? ⟨b, off + j, none⟩ = some (.int .i16 l[j]) := by
  obtain ⟨a, cap, rfl, hn, hc⟩ := h
  refine ⟨a, cap, rfl, hn, fun k hk => ?_⟩
  rcases hc with hc | ⟨b, off, rfl, hlt, hc⟩
  · omega
  · exact ⟨b, off, rfl, hlt, fun j hj => by have := hc j (by simpa using hj); simpa using this⟩
/-- What is known of the readings shown so far. -/
def ShownOk (l : List StoneD) (rs : List Mach) : Prop := ∀ j, j < rs.length → rdRight (rs.getD j ⟨0, 0, 0⟩) 16 = true ∧ (rs.getD j ⟨0, 0, 0⟩).power ≤ (rdOf j (stAt l j)).power ∧ (rdOf j (stAt l j)).start ≤ (rs.getD j ⟨0, 0, 0⟩).start
theorem ShownOk.add {l : List StoneD} {rs : List Mach} (h : ShownOk l rs) (m : Mach) (h1 : rdRight m 16 = true) (h2 : m.power ≤ (rdOf rs.length (stAt l rs.length)).power) (h3 : (rdOf rs.length (stAt l rs.length)).start ≤ m.start) : ShownOk l (rs ++ [m]) := by
  intro j hj
  rw [List.length_append, List.length_singleton] at hj
  by_cases e : j = rs.length
  · subst e
    have : (rs ++ [m]).getD rs.length ⟨0, 0, 0⟩ = m := by simp [List.getD_eq_getElem?_getD]
    rw [this]
    exact ⟨h1, h2, h3⟩
  · have : (rs ++ [m]).getD j ⟨0, 0, 0⟩ = rs.getD j ⟨0, 0, 0⟩ := by
      simp only [List.getD_eq_getElem?_getD]
      rw [List.getElem?_append_left (by omega)]
    rw [this]
    exact h j (by omega)
theorem order_ge {l : List StoneD} {rs : List Mach} (hck : checkR l = true) (h : ShownOk l rs) (hl : rs.length = l.length) {i k : Nat} (hik : i < k) (hk : k < (nearR l).length) : ¬ nearer2 (rs.getD ((nearR l).getD k 0) ⟨0, 0, 0⟩) (rs.getD ((nearR l).getD i 0) ⟨0, 0, 0⟩) < 0 := by
  obtain ⟨-, hok⟩ := checkR_ok hck
  have m1 := near_mem (l := l) (i := i) (by omega)
  have m2 := near_mem (l := l) (i := k) hk
  have hs := nearR_sort l i k hik hk
  obtain ⟨-, a2, a3⟩ := h _ (show (nearR l).getD i 0 < rs.length by omega)
  obtain ⟨-, b2, b3⟩ := h _ (show (nearR l).getD k 0 < rs.length by omega)
  have hlh := low_high (hok _ m1) (hok _ m2) (by simpa only [sqS] using hs) ((nearR l).getD i 0) ((nearR l).getD k 0)
  unfold nearer2
  rw [if_neg (by omega)]
  split <;> omega
theorem read_cases (off per : Int) (k : Nat) (value : Int) (w : World) : Calls Try.prog 9 #[.agg #[.int .i64 off, .int .i64 per], .int .i64 (k : Int), .int .i64 value] w fun e w' => ((∃ lo hi, e = .returned (.tuple #[.agg #[.int .i64 (k : Int), .int .i64 lo, .int .i64 hi], .int .i64 0]) ∧ rdRight ⟨(k : Int), lo, hi⟩ 16 = true) ∨ e = .returned (.tuple #[.agg #[.int .i64 0, .int .i64 0, .int .i64 0], .int .i64 2])) ∧ Below w.heap.size w w' := by
  refine (read_any off per (k : Int) value w).mono ?_
  rintro e w' ⟨rfl, hb⟩
  refine ⟨?_, hb⟩
  unfold readV
  split
  · next h =>
    obtain ⟨o1, o2, o3⟩ := offN_b h
    refine .inl ⟨_, _, rfl, ?_⟩
    simp only [rdOk, inB, Bool.and_eq_true, decide_eq_true_eq] at h
    simp only [rdRight, inB, Bool.and_eq_true, decide_eq_true_eq]
    omega
  · exact .inr rfl
end Go.Proofs.Ytolnhicngepnnaa
