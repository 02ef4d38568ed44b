/- fixed: ways and root. -/
import Derived.Test.YtolnhicngepnnaaGreatF5
namespace Go.Proofs.YtolnhicngepnnaaGreat
open Go.RowKit

/-- How a way rounds. -/
def roundR (f : FuncId) (half : Int) (neg : Bool) : Bool := if f = 95 then false else if f = 96 then neg else if f = 97 then !neg else decide (0 ≤ half)
def isWay (f : FuncId) : Prop := f = 95 ∨ f = 96 ∨ f = 97 ∨ f = 98
theorem round_any (f : FuncId) (hf : isWay f) (half : Int) (neg : Bool) (w : World) : Calls Tryz.prog f #[.int .i64 half, .bool neg] w fun e w' => e = .returned (.bool (roundR f half neg)) ∧ w' = w := by
  rcases hf with rfl | rfl | rfl | rfl
  · go_enter Tryz.func95, Tryz.ntmps95
    go_wp2_with fail
    go_ret
    exact ⟨rfl, rfl⟩
  · go_enter Tryz.func96, Tryz.ntmps96
    go_wp2_with fail
    go_ret
    exact ⟨rfl, rfl⟩
  · go_enter Tryz.func97, Tryz.ntmps97
    go_wp2_with fail
    go_ret
    exact ⟨rfl, rfl⟩
  · go_enter Tryz.func98, Tryz.ntmps98
    go_wp2_with fail
    go_ret
    exact ⟨by simp [roundR], rfl⟩
/-- The closure of a way. -/
def wayF (how : Int) : Option FuncId := if how = 0 then some 95 else if how = 1 then some 96 else if how = 2 then some 97 else if how = 3 then some 98 else none
theorem wayF_is {how : Int} {f : FuncId} (h : wayF how = some f) : isWay f := by
  unfold wayF at h
  repeat' split at h
  all_goals (cases h <;> (unfold isWay; simp))
theorem enters_way (f : FuncId) (hf : isWay f) : ∀ args w, (callFunc f args).run Tryz.prog w = .ok (.enter f args) w := by
  rcases hf with rfl | rfl | rfl | rfl
  · exact enters_of Tryz.func95 (by kernel_rfl) rfl
  · exact enters_of Tryz.func96 (by kernel_rfl) rfl
  · exact enters_of Tryz.func97 (by kernel_rfl) rfl
  · exact enters_of Tryz.func98 (by kernel_rfl) rfl
set_option maxRecDepth 100000 in
theorem ways_any (how : Int) (w : World) : Calls Tryz.prog 53 #[.int .i64 how] w fun e w' => (match wayF how with | some f => e = .returned (.func (.func f) #[] #[]) | none => e = .panicked (misfit 2)) ∧ w' = w := by
  have hm := mkif 2
  by_cases h0 : how = 0
  · subst h0
    rw [show wayF 0 = some 95 by simp [wayF]]
    go_enter Tryz.func53, Tryz.ntmps53
    go_wp2_with fail
    go_ret
    exact ⟨rfl, rfl⟩
  · by_cases h1 : how = 1
    · subst h1
      rw [show wayF 1 = some 96 by simp [wayF]]
      go_enter Tryz.func53, Tryz.ntmps53
      go_wp2_with fail
      go_ret
      exact ⟨rfl, rfl⟩
    · by_cases h2 : how = 2
      · subst h2
        rw [show wayF 2 = some 97 by simp [wayF]]
        go_enter Tryz.func53, Tryz.ntmps53
        go_wp2_with fail
        go_ret
        exact ⟨rfl, rfl⟩
      · by_cases h3 : how = 3
        · subst h3
          rw [show wayF 3 = some 98 by simp [wayF]]
          go_enter Tryz.func53, Tryz.ntmps53
          go_wp2_with fail
          go_ret
          exact ⟨rfl, rfl⟩
        · have hn : wayF how = none := by simp [wayF, h0, h1, h2, h3]
          rw [hn]
          go_enter Tryz.func53, Tryz.ntmps53
          go_wp2_with fail
          exact ⟨rfl, rfl, rfl⟩
end Go.Proofs.YtolnhicngepnnaaGreat
