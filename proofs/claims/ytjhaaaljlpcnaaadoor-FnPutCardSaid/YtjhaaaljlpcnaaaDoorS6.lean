/- Stores: what SyncStore computes. Conditions: the strings have at most 1048576 bytes. -/
import Derived.Test.YtjhaaaljlpcnaaaDoorS5
namespace Go.Proofs.YtjhaaaljlpcnaaaDoor.S
set_option linter.unusedVariables false
set_option linter.unusedSimpArgs false
open Go.RowKit Go.Proofs.YtjhaaaljlpcnaaaDoorW.PrintWords Go.Proofs.YtjhaaaljlpcnaaaDoorW.PrintMore Go.Proofs.YtjhaaaljlpcnaaaDoor.X Go.Proofs.YtjhaaaljlpcnaaaDoor.A Go.Proofs.YtjhaaaljlpcnaaaDoor.Y

theorem syncImpl (r : Int) (a b : List UInt8) (ha : a.length ≤ 1048576) (hb : b.length ≤ 1048576) (w : World) :
    Calls Tryd.prog 26 #[store r a b] w fun e w' => e = .returned (.tuple #[if good r a b then store r (a ++ b) [] else store 0 [] [], .bool (good r a b)]) ∧ Below w.heap.size w w' := by
  have hR := isStore r a b ha hb
  cases hg : good r a b with
  | false =>
    rw [hg] at hR
    clear hg
    go_enter Tryd.func26, Tryd.ntmps26
    go_wp2_with (first | (go_at_call 43; refine (hR _).mono ?_; rintro e w1 ⟨rfl, hb1⟩; obtain ⟨hc1, hf1⟩ := bcell hb1; have hB1 : Below w.heap.size w w1 := below_then (below_alloc (below_alloc (Below.refl _ _) _) _) (by simp; omega) hb1; have hz1 : w.heap.size + 1 < w1.heap.size := by (have := hb1.size; simp at this; omega)))
    refine bodyPost_ret (v := .tuple #[store 0 [] [], .bool false]) (by simp [results, Tryd.results26, go_sem, hc1, hz1]) rfl ⟨rfl, ?_⟩
    repeat refine Below.setCell ?_ (by simp) _
    exact hB1
  | true =>
    rw [hg] at hR
    clear hg
    go_enter Tryd.func26, Tryd.ntmps26
    go_wp2_with (first | (go_at_call 43; refine (hR _).mono ?_; rintro e w1 ⟨rfl, hb1⟩; obtain ⟨hc1, hf1⟩ := bcell hb1; have hB1 : Below w.heap.size w w1 := below_then (below_alloc (below_alloc (Below.refl _ _) _) _) (by simp; omega) hb1; have hz1 : w.heap.size + 1 < w1.heap.size := by (have := hb1.size; simp at this; omega)))
    refine bodyPost_ret (v := .tuple #[store r (a ++ b) [], .bool true]) (by simp [results, Tryd.results26, go_sem, hc1, hz1, mk_append]) rfl ⟨rfl, ?_⟩
    repeat refine Below.setCell ?_ (by simp) _
    exact hB1
theorem syncSpec (r : Int) (a b : List UInt8) (ha : a.length ≤ 1048576) (hb : b.length ≤ 1048576) (w : World) :
    Calls Tryd.prog 36 #[store r a b] w fun e w' => e = .returned (.tuple #[if good r a b then store r (a ++ b) [] else store 0 [] [], .bool (good r a b)]) ∧ Below w.heap.size w w' := by
  have hR := goodSpec r a b ha hb
  cases hg : good r a b with
  | false =>
    rw [hg] at hR
    clear hg
    go_enter Tryd.func36, Tryd.ntmps36
    go_wp2_with (first | (go_at_call 14; refine (hR _).mono ?_; rintro e w1 ⟨rfl, hb1⟩; obtain ⟨hc1, hf1⟩ := bcell hb1; have hB1 : Below w.heap.size w w1 := below_then (below_alloc (below_alloc (Below.refl _ _) _) _) (by simp; omega) hb1; have hz1 : w.heap.size + 1 < w1.heap.size := by (have := hb1.size; simp at this; omega)))
    refine bodyPost_ret (v := .tuple #[store 0 [] [], .bool false]) (by simp [results, Tryd.results36, go_sem, hc1, hz1]) rfl ⟨rfl, ?_⟩
    repeat refine Below.setCell ?_ (by simp) _
    exact hB1
  | true =>
    rw [hg] at hR
    clear hg
    go_enter Tryd.func36, Tryd.ntmps36
    go_wp2_with (first | (go_at_call 14; refine (hR _).mono ?_; rintro e w1 ⟨rfl, hb1⟩; obtain ⟨hc1, hf1⟩ := bcell hb1; have hB1 : Below w.heap.size w w1 := below_then (below_alloc (below_alloc (Below.refl _ _) _) _) (by simp; omega) hb1; have hz1 : w.heap.size + 1 < w1.heap.size := by (have := hb1.size; simp at this; omega)))
    refine bodyPost_ret (v := .tuple #[store r (a ++ b) [], .bool true]) (by simp [results, Tryd.results36, go_sem, hc1, hz1, mk_append]) rfl ⟨rfl, ?_⟩
    repeat refine Below.setCell ?_ (by simp) _
    exact hB1
end Go.Proofs.YtjhaaaljlpcnaaaDoor.S
