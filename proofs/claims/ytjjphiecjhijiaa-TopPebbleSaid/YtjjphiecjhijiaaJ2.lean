import Derived.Test.YtjjphiecjhijiaaJ1

namespace Go.Proofs.Ytjjphiecjhijiaa
open Go.RowKit

/-- The due time of a job, by its number. -/
def due (l : List Mach) (x : Nat) : Int := (l.getD x ⟨0, 0, 0⟩).start
/-- Is job x to be done ahead of job y? -/
def lessJ (l : List Mach) (x y : Nat) : Bool := decide (due l x < due l y) || (due l x == due l y && decide (x < y))
theorem SlM.due {w : World} {v : Value} {l : List Mach} (h : SlM w v l) (x : Nat) (hx : x < l.length) :
    ∃ b off cap, v = .slice (some ⟨b, off, none⟩) l.length cap ∧ b < w.heap.size ∧ w.cell? ⟨b, off + x * 3 + 2, none⟩ = some (.int .i64 (due l x)) := by
  obtain ⟨a, cap, rfl, hl, hc⟩ := h.open
  obtain ⟨b, off, rfl, hb, hcc⟩ := hc x hx
  refine ⟨b, off, cap, rfl, hb, ?_⟩
  rw [(hcc x hx).2.2]
  simp [Go.Proofs.Ytjjphiecjhijiaa.due, hx]

set_option maxHeartbeats 400000 in
/-- plant.Plan$1 -/
theorem less_any (l : List Mach) (v : Value) (b2 x y : Nat) (w : World) (hs : SlM w v l) (hc : w.cell? ⟨b2, 0, none⟩ = some v) (hx : x < l.length) (hy : y < l.length) :
    Calls Try.prog 19 #[.int .i64 x, .int .i64 y, .pointer (some ⟨b2, 0, none⟩)] w fun e w' => e = .returned (.bool (lessJ l x y)) ∧ ∃ k, w' = w.drewN k := by
  obtain ⟨b, off, cap, rfl, hb, hdx⟩ := hs.due x hx
  obtain ⟨b', off', cap', he, hb', hdy⟩ := hs.due y hy
  obtain ⟨rfl, rfl⟩ : b' = b ∧ off' = off := by injection he with h1 h2 h3; injection h1 with h1; injection h1 with h1 h2 h3; exact ⟨h1.symm, h2.symm⟩
  have HL := hid (show lessJ l x y = (decide (due l x < due l y) || (due l x == due l y && decide (x < y))) from rfl)
  have hx0 : (0 : Int) ≤ (x : Int) := by omega
  have hx1 : (x : Int) < (l.length : Int) := by omega
  have hy0 : (0 : Int) ≤ (y : Int) := by omega
  have hy1 : (y : Int) < (l.length : Int) := by omega
  clear hs he
  generalize due l x = dx at *
  generalize due l y = dy at *
  generalize hb1 : decide (dx < dy) = b1 at *
  generalize hb2 : (dx == dy) = bb2 at *
  cases b1 <;> cases bb2
  all_goals
    go_enter Try.func19, Try.ntmps19
    go_wp2_with fail
    go_quiet (fail)
    go_wp2_with fail
    go_ret
    exact ⟨by rw [HL.out]; rfl, _, rfl⟩
end Go.Proofs.Ytjjphiecjhijiaa
