/- Stores: what isRoom, isStore, GoodStore, NewStore, SyncStore and CrashStore compute, on both sides. Conditions: the strings have at most 1048576 bytes. -/
import Derived.Test.YtjhaaaljlpcnaaaDoorS4
namespace Go.Proofs.YtjhaaaljlpcnaaaDoor.S
set_option linter.unusedVariables false
set_option linter.unusedSimpArgs false
open Go.RowKit Go.Proofs.YtjhaaaljlpcnaaaDoorW.PrintWords Go.Proofs.YtjhaaaljlpcnaaaDoorW.PrintMore Go.Proofs.YtjhaaaljlpcnaaaDoor.X Go.Proofs.YtjhaaaljlpcnaaaDoor.A

abbrev store (r : Int) (a b : List UInt8) : Value := .agg #[.int .i64 r, .string ⟨a.toArray⟩, .string ⟨b.toArray⟩]
def good (r : Int) (a b : List UInt8) : Bool := decide (0 ≤ r ∧ r ≤ 4000 ∧ (a.length : Int) + b.length ≤ r)

theorem withinB (n lo hi : Int) (w : World) : Calls Tryd.prog 44 #[.int .i64 n, .int .i64 lo, .int .i64 hi] w fun e w' => e = .returned (.bool (decide (lo ≤ n ∧ n ≤ hi))) ∧ Drawn0 w w' :=
  impl_within.calls n lo hi _ w (by
    unfold impl_within.f
    by_cases h : n ≥ lo
    · rw [if_pos h]
      simp [h]
    · rw [if_neg h]
      have : ¬ lo ≤ n := h
      simp [this])

theorem isRoom (r : Int) (w : World) : Calls Tryd.prog 55 #[.int .i64 r] w fun e w' => e = .returned (.bool (decide (0 ≤ r ∧ r ≤ 4000))) ∧ Drawn0 w w' := by
  go_enter Tryd.func55, Tryd.ntmps55
  go_wp2_with (first | (go_at_call 44; refine (withinB _ _ _ _).mono ?_; rintro e w1 ⟨rfl, hb1⟩))
  go_ret
  refine ⟨?_, hb1⟩
  show Ending.returned (Value.bool (decide (0 ≤ r) && decide (r ≤ 4000))) = _
  rw [Bool.decide_and]

theorem isStore (r : Int) (a b : List UInt8) (ha : a.length ≤ 1048576) (hb : b.length ≤ 1048576) (w : World) :
    Calls Tryd.prog 43 #[store r a b] w fun e w' => e = .returned (.bool (good r a b)) ∧ Below w.heap.size w w' := by
  have hs : IntKind.i64.wrap ((a.length : Int) + b.length) = (a.length : Int) + b.length := IntWalk.i64_in _ (by omega)
  have HS := Lib.hid hs
  by_cases hr : 0 ≤ r ∧ r ≤ 4000
  · have hd : decide (0 ≤ r ∧ r ≤ 4000) = true := by simp [hr]
    have e : good r a b = decide ((a.length : Int) + b.length ≤ r) := by simp [good, hr]
    have hR := isRoom r
    rw [hd] at hR
    rw [e]
    clear e hs hd
    go_enter Tryd.func43, Tryd.ntmps43
    go_wp2_with (first | (go_at_call 55; refine (hR _).mono ?_; rintro e w1 ⟨rfl, ⟨nd, rfl⟩⟩))
    go_ret
    exact ⟨rfl, by repeat (first | exact Below.refl _ _ | apply pw_below_drewN | apply below_alloc | apply below_drew1)⟩
  · have hd : decide (0 ≤ r ∧ r ≤ 4000) = false := by simpa using hr
    have e : good r a b = false := by
      have : ¬ (0 ≤ r ∧ r ≤ 4000 ∧ (a.length : Int) + b.length ≤ r) := fun h => hr ⟨h.1, h.2.1⟩
      simp only [good, decide_eq_false this]
    have hR := isRoom r
    rw [hd] at hR
    rw [e]
    clear e hs hd
    go_enter Tryd.func43, Tryd.ntmps43
    go_wp2_with (first | (go_at_call 55; refine (hR _).mono ?_; rintro e w1 ⟨rfl, ⟨nd, rfl⟩⟩))
    go_ret
    exact ⟨rfl, by repeat (first | exact Below.refl _ _ | apply pw_below_drewN | apply below_alloc | apply below_drew1)⟩

theorem l1InB (n lo hi : Int) (w : World) : Calls Tryd.prog 45 #[.int .i64 n, .int .i64 lo, .int .i64 hi] w fun e w' => e = .returned (.bool (decide (lo ≤ n ∧ n ≤ hi))) ∧ Drawn0 w w' :=
  spec_l1In.calls n lo hi _ w (by
    unfold spec_l1In.f
    by_cases h : n ≥ lo
    · rw [if_pos h]
      simp [h]
    · rw [if_neg h]
      have : ¬ lo ≤ n := h
      simp [this])

theorem goodImpl (r : Int) (a b : List UInt8) (ha : a.length ≤ 1048576) (hb : b.length ≤ 1048576) (w : World) :
    Calls Tryd.prog 13 #[store r a b] w fun e w' => e = .returned (.bool (good r a b)) ∧ Below w.heap.size w w' := by
  have hR := isStore r a b ha hb
  go_enter Tryd.func13, Tryd.ntmps13
  go_wp2_with (first | (go_at_call 43; refine (hR _).mono ?_; rintro e w1 ⟨rfl, hb1⟩))
  go_ret
  exact ⟨rfl, below_then (below_alloc (Below.refl _ _) _) (by simp) hb1⟩

theorem goodSpec (r : Int) (a b : List UInt8) (ha : a.length ≤ 1048576) (hb : b.length ≤ 1048576) (w : World) :
    Calls Tryd.prog 14 #[store r a b] w fun e w' => e = .returned (.bool (good r a b)) ∧ Below w.heap.size w w' := by
  by_cases hr : 0 ≤ r ∧ r ≤ 4000
  · have hd : decide (0 ≤ r ∧ r ≤ 4000) = true := by simp [hr]
    have e : good r a b = decide ((a.length : Int) + b.length ≤ r) := by simp [good, hr]
    have hR := l1InB r 0 4000
    rw [hd] at hR
    rw [e]
    clear e hd
    by_cases c1 : (a.length : Int) ≤ r
    all_goals
      go_enter Tryd.func14, Tryd.ntmps14
      go_wp2_with (first | (go_at_call 45; refine (hR _).mono ?_; rintro e w1 ⟨rfl, ⟨nd, rfl⟩⟩))
      go_ret
      refine ⟨congrArg _ (congrArg Value.bool ?_), by repeat (first | exact Below.refl _ _ | apply pw_below_drewN | apply below_alloc | apply below_drew1)⟩
      first
        | exact decide_eq_decide.2 (by omega)
        | exact (decide_eq_false (by omega)).symm
  · have hd : decide (0 ≤ r ∧ r ≤ 4000) = false := by simpa using hr
    have e : good r a b = false := by
      have : ¬ (0 ≤ r ∧ r ≤ 4000 ∧ (a.length : Int) + b.length ≤ r) := fun h => hr ⟨h.1, h.2.1⟩
      simp only [good, decide_eq_false this]
    have hR := l1InB r 0 4000
    rw [hd] at hR
    rw [e]
    clear e hd
    go_enter Tryd.func14, Tryd.ntmps14
    go_wp2_with (first | (go_at_call 45; refine (hR _).mono ?_; rintro e w1 ⟨rfl, ⟨nd, rfl⟩⟩))
    go_ret
    exact ⟨rfl, by repeat (first | exact Below.refl _ _ | apply pw_below_drewN | apply below_alloc | apply below_drew1)⟩
end Go.Proofs.YtjhaaaljlpcnaaaDoor.S
