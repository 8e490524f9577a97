/- Walk of the statement FnExactReadAct: where the program and the reference answer alike; the library's variables as the program lays them. -/
import Derived.Test.YtjhaaaljlpcnaaaDoorYc
namespace Go.Proofs.YtjhaaaljlpcnaaaDoor.Y
open Go.RowKit Go.Proofs.YtjhaaaljlpcnaaaDoorW.PrintWords Go.Proofs.YtjhaaaljlpcnaaaDoorW.PrintMore Go.Proofs.YtjhaaaljlpcnaaaDoor.X Go.Proofs.YtjhaaaljlpcnaaaDoor.A

theorem law_big (s : ByteArray) (w : World) (h : 1048576 < s.size) : Calls Tryd.prog 3 #[.string s] w fun e w' => e = .returned (.bool true) ∧ Below w.heap.size w w' := by
  have h1 : decide (1048576 < s.size) = true := decide_eq_true h
  have h2 : decide ((1048576 : Int) < (s.size : Int)) = true := decide_eq_true (by omega)
  clear h
  go_enter Tryd.func3, Tryd.ntmps3
  go_wp2
  go_ret
  exact ⟨rfl, Below.refl _ _⟩

set_option maxHeartbeats 1000000 in
theorem law_small (s : ByteArray) (w : World) (hG : GL w) (h : s.size ≤ 1048576) (a0 a1 a2 a3 a4 a5 a6 : Int) (r : Bool)
    (hS : ∀ W, Calls Tryd.prog 6 #[.string s] W fun e w' => e = .returned (.tuple #[agg7 a0 a1 a2 a3 a4 a5 a6, .bool r]) ∧ Below W.heap.size W w')
    (hI : ∀ W, GL W → Calls Tryd.prog 7 #[.string s] W fun e w' => e = .returned (.tuple #[agg7 a0 a1 a2 a3 a4 a5 a6, .bool r]) ∧ Below W.heap.size W w') :
    Calls Tryd.prog 3 #[.string s] w fun e w' => e = .returned (.bool true) ∧ Below w.heap.size w w' := by
  have h1 : decide (1048576 < s.size) = false := decide_eq_false (by omega)
  have h2 : decide ((1048576 : Int) < (s.size : Int)) = false := decide_eq_false (by omega)
  have HS := Aside0.mk hS
  have HI := Aside0.mk hI
  clear h hS hI
  go_enter Tryd.func3, Tryd.ntmps3
  go_wp2_with (first | (go_at_call 6; refine (HS.out _).mono ?_; rintro e w1 ⟨rfl, hb1⟩) | (go_at_call 7; refine (HI.out _ ((hG.below hb1).below (below_alloc (Below.refl _ _) _))).mono ?_; rintro e w2 ⟨rfl, hb2⟩; obtain ⟨hc2, hf2⟩ := bcell hb2; have hz2 : w1.heap.size < w2.heap.size := by (have := hb2.size; simp at this; omega)) | (go_at_call 8; refine (eqWorkAct_calls a0 a1 a2 a3 a4 a5 a6 a0 a1 a2 a3 a4 a5 a6 _).mono ?_; rintro e w3 ⟨rfl, hb3⟩; rw [show decide (a0 = a0 ∧ a1 = a1 ∧ a2 = a2 ∧ a3 = a3 ∧ a4 = a4 ∧ a5 = a5 ∧ a6 = a6) = true from decide_eq_true ⟨rfl, rfl, rfl, rfl, rfl, rfl, rfl⟩]))
  go_ret
  exact ⟨rfl, below_then hb1 hb1.size (below_then (below_then (below_alloc (Below.refl _ _) _) (by simp) hb2) (by omega) (below_then (below_alloc (Below.refl _ _) _) (by simp) hb3))⟩
end Go.Proofs.YtjhaaaljlpcnaaaDoor.Y
