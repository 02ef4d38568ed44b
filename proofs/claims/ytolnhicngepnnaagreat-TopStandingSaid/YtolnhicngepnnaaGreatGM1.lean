/- How a game stands: the plain law. -/
import Derived.Test.YtolnhicngepnnaaGreatPA
namespace Go.Proofs.YtolnhicngepnnaaGreat

/-- A match, a line of a card, a standing, as data. -/
structure MatchD where
  ends : Int
  most : Int
  early : Int
  change : Bool
  power : Bool
structure LineD where
  team : Int
  pts : Int
  pow : Bool
structure StD where
  p0 : Int
  p1 : Int
  ends : Int
  ham : Int
  win : Int
  over : Bool
  extra : Bool
  w0 : Bool
  w1 : Bool
deriving DecidableEq
def MatchD.ok (m : MatchD) : Bool := inB m.ends 1 16 && inB m.most 1 8 && inB m.early 1 m.ends
def zeroS : StD := ⟨0, 0, 0, 0, 0, false, false, false, false⟩
def begun (first : Int) : StD := ⟨0, 0, 0, first, -1, false, false, false, false⟩
def StD.powAt (s : StD) (h : Int) : Bool := if h = 0 then s.w0 else s.w1
def lineOk (m : MatchD) (x : LineD) : Bool := (x.team == -1 && x.pts == 0) || (inB x.team 0 1 && inB x.pts 1 m.most)
def powOk (m : MatchD) (s : StD) (x : LineD) : Bool := !x.pow || (m.power && decide (s.ends < m.ends) && !s.powAt s.ham)
def fits (m : MatchD) (s : StD) (x : LineD) : Bool := !s.over && lineOk m x && powOk m s x
def StD.end (s : StD) (winner : Int) : StD := ⟨s.p0, s.p1, s.ends, -1, winner, true, false, s.w0, s.w1⟩
/-- Ahead of the question whether the game is over. -/
def played (m : MatchD) (s : StD) (x : LineD) : StD :=
  ⟨s.p0 + (if x.team = 0 then x.pts else 0), s.p1 + (if x.team = 1 then x.pts else 0), s.ends + 1,
    if 0 ≤ x.team then 1 - x.team else if m.change then 1 - s.ham else s.ham, s.win, s.over, decide (m.ends ≤ s.ends + 1),
    s.w0 || (x.pow && s.ham == 0), s.w1 || (x.pow && s.ham == 1)⟩
def ended (s : StD) : StD := if s.extra && decide (s.p0 > s.p1) then s.end 0 else if s.extra && decide (s.p1 > s.p0) then s.end 1 else s
def behind (m : MatchD) (s : StD) (x : LineD) : StD := ended (played m s x)
/-- The standing behind the first k lines. -/
def stAt (m : MatchD) (first : Int) (card : List LineD) : Nat → StD
  | 0 => begun first
  | k + 1 => behind m (stAt m first card k) (card.getD k ⟨0, 0, false⟩)
/-- How many lines are valid, one behind the other. -/
def badN (m : MatchD) (s : StD) : List LineD → Nat
  | [] => 0
  | x :: l => if fits m s x then badN m (behind m s x) l + 1 else 0
def MatchD.asked (m : MatchD) (first conceded : Int) : Bool := m.ok && inB first 0 1 && inB conceded (-1) 1
def replayR (m : MatchD) (first : Int) (card : List LineD) (conceded : Int) : StD × Int × Int :=
  if m.asked first conceded then
    if card.length ≤ 40 then
      if badN m (begun first) card < card.length then (zeroS, (badN m (begun first) card : Int), 2)
      else if conceded = -1 then (stAt m first card card.length, -1, 0)
      else if (stAt m first card card.length).over || decide ((stAt m first card card.length).ends < m.early) then (zeroS, (card.length : Int), 9)
      else ((stAt m first card card.length).end (1 - conceded), -1, 0)
    else (zeroS, -1, 3)
  else (zeroS, -1, 2)

theorem badN_le (m : MatchD) : ∀ (l : List LineD) (s : StD), badN m s l ≤ l.length := by
  intro l
  induction l with
  | nil => intro s; exact Nat.le_refl _
  | cons x l ih =>
    intro s
    unfold badN
    split
    · have := ih (behind m s x); simp; omega
    · simp
/-- What is known of a standing ahead of the first bad line. -/
structure StOk (k : Nat) (s : StD) : Prop where
  ends : s.ends = k
  p0 : 0 ≤ s.p0 ∧ s.p0 ≤ 8 * k
  p1 : 0 ≤ s.p1 ∧ s.p1 ≤ 8 * k
  ham : s.over = false → s.ham = 0 ∨ s.ham = 1
  win : s.over = false → s.win = -1
end Go.Proofs.YtolnhicngepnnaaGreat
