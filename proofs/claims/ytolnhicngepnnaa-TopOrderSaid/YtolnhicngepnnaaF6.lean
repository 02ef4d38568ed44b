/- fixed: ways and root. -/
import Derived.Test.YtolnhicngepnnaaF5
namespace Go.Proofs.Ytolnhicngepnnaa
open Go.RowKit

/-- How a way rounds. -/
def roundR (f : FuncId) (half : Int) (neg : Bool) : Bool := if f = 53 then false else if f = 54 then neg else if f = 55 then !neg else decide (0 ≤ half)
def isWay (f : FuncId) : Prop := f = 53 ∨ f = 54 ∨ f = 55 ∨ f = 56
theorem round_any (f : FuncId) (hf : isWay f) (half : Int) (neg : Bool) (w : World) : Calls Try.prog f #[.int .i64 half, .bool neg] w fun e w' => e = .returned (.bool (roundR f half neg)) ∧ w' = w := by
  rcases hf with rfl | rfl | rfl | rfl
  · go_enter Try.func53, Try.ntmps53
    go_wp2_with fail
    go_ret
    exact ⟨rfl, rfl⟩
  · go_enter Try.func54, Try.ntmps54
    go_wp2_with fail
    go_ret
    exact ⟨rfl, rfl⟩
  · go_enter Try.func55, Try.ntmps55
    go_wp2_with fail
    go_ret
    exact ⟨rfl, rfl⟩
  · go_enter Try.func56, Try.ntmps56
    go_wp2_with fail
    go_ret
    exact ⟨by simp [roundR], rfl⟩
/-- The closure of a way. -/
def wayF (how : Int) : Option FuncId := if how = 0 then some 53 else if how = 1 then some 54 else if how = 2 then some 55 else if how = 3 then some 56 else none
theorem wayF_is {how : Int} {f : FuncId} (h : wayF how = some f) : isWay f := by
  unfold wayF at h
  repeat' split at h
  all_goals (cases h <;> (unfold isWay; simp))
theorem enters_way (f : FuncId) (hf : isWay f) : ∀ args w, (callFunc f args).run Try.prog w = .ok (.enter f args) w := by
  rcases hf with rfl | rfl | rfl | rfl
  · exact enters_of Try.func53 (by kernel_rfl) rfl
  · exact enters_of Try.func54 (by kernel_rfl) rfl
  · exact enters_of Try.func55 (by kernel_rfl) rfl
  · exact enters_of Try.func56 (by kernel_rfl) rfl
set_option maxRecDepth 100000 in
theorem ways_any (how : Int) (w : World) : Calls Try.prog 32 #[.int .i64 how] w fun e w' => (match wayF how with | some f => e = .returned (.func (.func f) #[] #[]) | none => e = .panicked (misfit 2)) ∧ w' = w := by
  have hm := mkif 2
  by_cases h0 : how = 0
  · subst h0
    rw [show wayF 0 = some 53 by simp [wayF]]
    go_enter Try.func32, Try.ntmps32
    go_wp2_with fail
    go_ret
    exact ⟨rfl, rfl⟩
  · by_cases h1 : how = 1
    · subst h1
      rw [show wayF 1 = some 54 by simp [wayF]]
      go_enter Try.func32, Try.ntmps32
      go_wp2_with fail
      go_ret
      exact ⟨rfl, rfl⟩
    · by_cases h2 : how = 2
      · subst h2
        rw [show wayF 2 = some 55 by simp [wayF]]
        go_enter Try.func32, Try.ntmps32
        go_wp2_with fail
        go_ret
        exact ⟨rfl, rfl⟩
      · by_cases h3 : how = 3
        · subst h3
          rw [show wayF 3 = some 56 by simp [wayF]]
          go_enter Try.func32, Try.ntmps32
          go_wp2_with fail
          go_ret
          exact ⟨rfl, rfl⟩
        · have hn : wayF how = none := by simp [wayF, h0, h1, h2, h3]
          rw [hn]
          go_enter Try.func32, Try.ntmps32
          go_wp2_with fail
          exact ⟨rfl, rfl, rfl⟩
end Go.Proofs.Ytolnhicngepnnaa
