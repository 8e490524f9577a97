/- Stores: what NewStore computes, on both sides. No condition. -/
import Derived.Test.YtjhaaaljlpcnaaaDoorS6
namespace Go.Proofs.YtjhaaaljlpcnaaaDoor.S
set_option linter.unusedVariables false
set_option linter.unusedSimpArgs false
open Go.RowKit Go.Proofs.YtjhaaaljlpcnaaaDoorW.PrintWords Go.Proofs.YtjhaaaljlpcnaaaDoorW.PrintMore Go.Proofs.YtjhaaaljlpcnaaaDoor.X Go.Proofs.YtjhaaaljlpcnaaaDoor.A Go.Proofs.YtjhaaaljlpcnaaaDoor.Y

theorem newImpl (r : Int) (w : World) :
    Calls Tryd.prog 33 #[.int .i64 r] w fun e w' => e = .returned (.tuple #[if decide (0 ≤ r ∧ r ≤ 4000) then store r [] [] else store 0 [] [], .bool (decide (0 ≤ r ∧ r ≤ 4000))]) ∧ Below w.heap.size w w' := by
  have hR := isRoom r
  cases hg : decide (0 ≤ r ∧ r ≤ 4000) with
  | false =>
    rw [hg] at hR
    clear hg
    go_enter Tryd.func33, Tryd.ntmps33
    go_wp2_with (first | (go_at_call 55; refine (hR _).mono ?_; rintro e w1 ⟨rfl, ⟨nd, rfl⟩⟩))
    refine bodyPost_ret (v := .tuple #[store 0 [] [], .bool false]) (by simp [results, Tryd.results33, go_sem]) rfl ⟨rfl, ?_⟩
    repeat (first | exact Below.refl _ _ | refine Below.setCell ?_ (by simp) _ | apply pw_below_drewN | apply below_alloc)
  | true =>
    rw [hg] at hR
    clear hg
    go_enter Tryd.func33, Tryd.ntmps33
    go_wp2_with (first | (go_at_call 55; refine (hR _).mono ?_; rintro e w1 ⟨rfl, ⟨nd, rfl⟩⟩))
    refine bodyPost_ret (v := .tuple #[store r [] [], .bool true]) (by simp [results, Tryd.results33, go_sem]) rfl ⟨rfl, ?_⟩
    repeat (first | exact Below.refl _ _ | refine Below.setCell ?_ (by simp) _ | apply pw_below_drewN | apply below_alloc)
end Go.Proofs.YtjhaaaljlpcnaaaDoor.S
