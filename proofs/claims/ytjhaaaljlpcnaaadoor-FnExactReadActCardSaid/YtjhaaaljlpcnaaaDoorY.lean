/- Walks of the reference's l1Text and ActText and of eqWorkAct: numbers that are not negative; the library's variables as the program lays them. -/
import Derived.Test.YtjhaaaljlpcnaaaDoorYb
import Derived.Test.YtjhaaaljlpcnaaaDoorZe
import Derived.Lib.ItoaNum
import Derived.Lib.Hide
namespace Go.Proofs.YtjhaaaljlpcnaaaDoor.Y
open Go.RowKit Go.Proofs.YtjhaaaljlpcnaaaDoorW.PrintWords Go.Proofs.YtjhaaaljlpcnaaaDoorW.PrintMore Go.Proofs.YtjhaaaljlpcnaaaDoor.X Go.Proofs.YtjhaaaljlpcnaaaDoor.A

theorem num_calls (n : Int) (h0 : 0 ≤ n) (h1 : n ≤ 9223372036854775807) (w : World) :
    Calls Tryd.prog 71 #[.int .i64 n] w fun e w' => e = .returned (.string ⟨(dec n).toArray⟩) ∧ Below w.heap.size w w' := by
  obtain ⟨k, hk⟩ := num_f _ n h0 h1 (Nat.lt_succ_self _)
  exact spec_l1Num.calls k n _ w hk

set_option maxHeartbeats 1000000 in
theorem text_calls (A : Option Addr) (c : Nat) (l : List Int) (w : World) (hr : Kd.C (Kd.int .i64) w A l.length l) (hc : l.length ≤ c) (hl : l.length ≤ 1048576) (hx : ∀ x ∈ l, 0 ≤ x ∧ x ≤ 9223372036854775807) :
    Calls Tryd.prog 58 #[.slice A l.length c] w fun e w' => e = .returned (.string ⟨(textL l).toArray⟩) ∧ Below w.heap.size w w' := by
  have HR := Aside0.mk hr
  have HX := Aside0.mk hx
  clear hr hx
  go_enter Tryd.func58, Tryd.ntmps58
  go_wp2
  go_loopg [3, 8] l.length (fun gk v3 v8 W => ∃ i : Nat, Aside0 (i ≤ l.length ∧ gk = l.length - i) ∧ v3 = .string ⟨(textL (l.take i)).toArray⟩ ∧ v8 = .int .i64 i ∧ Aside0 (Below w.heap.size w W))
  case atStart => exact ⟨0, ⟨by omega⟩, rfl, rfl, ⟨Below.refl _ _⟩⟩
  case round =>
    obtain ⟨i, HI, rfl, rfl, HB⟩ := hrel
    have hi := HI.out
    by_cases hlt : i < l.length
    · obtain ⟨ad, e, hx⟩ := cellN HR.out HB.out i hlt
      cases e
      have hxx : 0 ≤ l.getD i 0 ∧ l.getD i 0 ≤ 9223372036854775807 := by
        have : l.getD i 0 = l[i] := by simp [hlt]
        rw [this]
        exact HX.out _ (List.getElem_mem hlt)
      have hsz : (textL (l.take i)).length ≤ 20 * 1048576 := by
        have := textL_len (l.take i) (fun x hx => (HX.out x (List.mem_of_mem_take hx)).2)
        simp at this
        omega
      have hd := dec_len (l.getD i 0) hxx.2
      obtain ⟨y, hy⟩ : ∃ y, y = l.getD i 0 := ⟨_, rfl⟩
      have HY := Lib.hid hy
      rw [← hy] at hx hxx hd
      clear hy
      clear hi
      go_wp2_with (first | (go_at_call 71; refine (num_calls _ hxx.1 hxx.2 _).mono ?_; rintro e w1 ⟨rfl, hb1⟩))
      all_goals
        go_roundg (l.length - (i + 1))
        case measure => have := HI.out; omega
        case rel =>
          refine ⟨i + 1, ⟨by omega, rfl⟩, ?_, by go_num, ⟨below_then HB.out HB.out.size hb1⟩⟩
          rw [textL_snoc l i hlt, ← HY.out]
          first
            | rw [if_pos ‹0 < i›]; exact congrArg Value.string ((congrArg (· ++ _) (mk_append _ [32])).trans (mk_append _ _))
            | rw [if_neg ‹¬ 0 < i›]; exact congrArg Value.string (mk_append _ _)
    · have he : i = l.length := by omega
      subst he
      go_wp2
      go_ret
      exact ⟨by simp, HB.out⟩

def ok7 (a0 a1 a2 a3 a4 a5 a6 : Int) : Bool := [a0, a1, a2, a3, a4, a5, a6].all p999

theorem all_calls (A : Option Addr) (c : Nat) (l : List Int) (w : World) (hr : Kd.C (Kd.int .i64) w A l.length l) (hc : l.length ≤ c) (hl : l.length < 9223372036854775807) :
    Calls Tryd.prog 56 #[.slice A l.length c, .int .i64 0, .int .i64 999] w fun e w' => e = .returned (.bool (l.all p999)) ∧ Drawn0 w w' := by
  obtain ⟨k, hk⟩ := all_f l hl
  exact spec_l1All.calls k A c l 0 999 _ w hr hc hk

theorem actText_no (a0 a1 a2 a3 a4 a5 a6 : Int) (w : World) (h : ok7 a0 a1 a2 a3 a4 a5 a6 = false) :
    Calls Tryd.prog 39 #[agg7 a0 a1 a2 a3 a4 a5 a6] w fun e w' => e = .returned (.tuple #[.string ⟨#[]⟩, .bool false]) ∧ Below w.heap.size w w' := by
  go_enter Tryd.func39, Tryd.ntmps39
  go_wp2_with (first | (go_at_call 57; refine (spec_l19Fields.calls a0 a1 a2 a3 a4 a5 a6 _ _ rfl).mono ?_; rintro e w1 ⟨v1, rfl, hr1, hb1⟩; obtain ⟨A1, c1, rfl, hl1, hC1⟩ := Kd.R_reads hr1; have hB1 : Below w.heap.size w w1 := below_then (below_alloc (Below.refl _ _) _) (by simp) hb1) | (go_at_call 56; refine (all_calls _ _ [a0, a1, a2, a3, a4, a5, a6] _ hC1 hl1 (by simp)).mono ?_; rintro e w2 ⟨rfl, ⟨nd, rfl⟩⟩; rw [show [a0, a1, a2, a3, a4, a5, a6].all p999 = false from h]))
  go_ret2
  exact ⟨rfl, pw_below_drewN hB1 _⟩

theorem actText_yes (a0 a1 a2 a3 a4 a5 a6 : Int) (w : World) (h : ok7 a0 a1 a2 a3 a4 a5 a6 = true) :
    Calls Tryd.prog 39 #[agg7 a0 a1 a2 a3 a4 a5 a6] w fun e w' => e = .returned (.tuple #[.string ⟨(textL [a0, a1, a2, a3, a4, a5, a6]).toArray⟩, .bool true]) ∧ Below w.heap.size w w' := by
  have hx : ∀ x ∈ [a0, a1, a2, a3, a4, a5, a6], 0 ≤ x ∧ x ≤ 9223372036854775807 := by
    intro x hx
    have := List.all_eq_true.1 h x hx
    simp [p999] at this
    omega
  have HX := Aside0.mk hx
  clear hx
  go_enter Tryd.func39, Tryd.ntmps39
  go_wp2_with (first | (go_at_call 57; refine (spec_l19Fields.calls a0 a1 a2 a3 a4 a5 a6 _ _ rfl).mono ?_; first | (have := hB1; rintro e w3 ⟨v3, rfl, hr3, hb3⟩; obtain ⟨A3, c3, rfl, hl3, hC3⟩ := Kd.R_reads hr3; have hB3 : Below w.heap.size w w3 := below_then (pw_below_drewN hB1 nd) (by simpa using hB1.size) hb3) | (rintro e w1 ⟨v1, rfl, hr1, hb1⟩; obtain ⟨A1, c1, rfl, hl1, hC1⟩ := Kd.R_reads hr1; obtain ⟨hc1, hf1⟩ := bcell hb1; have hB1 : Below w.heap.size w w1 := below_then (below_alloc (Below.refl _ _) _) (by simp) hb1)) | (go_at_call 56; refine (all_calls _ _ [a0, a1, a2, a3, a4, a5, a6] _ hC1 hl1 (by simp)).mono ?_; rintro e w2 ⟨rfl, ⟨nd, rfl⟩⟩; rw [show [a0, a1, a2, a3, a4, a5, a6].all p999 = true from h]) | (go_at_call 58; refine (text_calls _ _ [a0, a1, a2, a3, a4, a5, a6] _ hC3 hl3 (by simp) HX.out).mono ?_; rintro e w4 ⟨rfl, hb4⟩))
  go_ret2
  exact ⟨rfl, below_then hB3 hB3.size hb4⟩
end Go.Proofs.YtjhaaaljlpcnaaaDoor.Y
