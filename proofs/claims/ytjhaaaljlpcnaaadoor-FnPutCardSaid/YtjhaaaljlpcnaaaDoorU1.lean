/- The draws: what the cursor's text and spoilt do: a string of bounded length, and only the cursor's own block turns. Conditions: the cursor's block and its bytes as 'Cur' says. -/
import Derived.Test.YtjhaaaljlpcnaaaDoorU0
import Derived.Lib.ConvBytes
import Derived.Laws.BytesArg
import Derived.Laws.MakeOwn
import Derived.Deep.LoopGhost
namespace Go.Proofs.YtjhaaaljlpcnaaaDoor.U
open Go.RowKit Go.Proofs.YtjhaaaljlpcnaaaDoorW.PrintWords

theorem info5 : (Tryd.prog.info? 5).map (fun i => (i.zero, i.size, i.bytes)) = some (some (.int .u8 0), 1, 1) := by kernel_rfl
theorem new_cell (w : World) (cs : Array Value) (t : TypeId) (j : Nat) : (w.alloc (.cells cs t)).cell? ⟨w.heap.size, j, none⟩ = cs[j]? := blk_cell (blk_new w _) j
theorem grown_alloc {w W : World} {g : Nat} (h : w.grownBy W (some g)) (o : Obj) : w.grownBy (W.alloc o) (some g) := grown_then h (World.grownBy_alloc W o _)
theorem Cur.alloc {B : Nat} {w : World} {g K : Nat} (h : Cur B w g K) (o : Obj) : Cur B (w.alloc o) g K := h.below (below_alloc (Below.refl _ _) o)
theorem Cur.lt {B : Nat} {w : World} {g K : Nat} (h : Cur B w g K) : g < B ∧ B ≤ w.heap.size := by
  obtain ⟨_, _, _, _, _, _, _, _, _, _, _, h6, h7, _⟩ := h
  exact ⟨h6, h7⟩

theorem str_of_made (w : World) (m : Nat) : (convert 28 9 (.slice (some ⟨w.heap.size, 0, none⟩) m m)).run Tryd.prog (w.alloc (.cells (madeCells #[.int .u8 0] m) 5)) = .ok (.string (strOfNums (List.replicate m 0))) (w.alloc (.cells (madeCells #[.int .u8 0] m) 5)) := by
  refine run_convert_bytes_arg (w.alloc (.cells (madeCells #[.int .u8 0] m) 5)) 28 5 Tryd.underlying28 Tryd.underlying5 w.heap.size 0 m m (List.replicate m 0) (by simp) (fun i hi => ?_) 9 Tryd.underlying9
  rw [new_cell]
  simp [madeCells, hi, Nat.mod_one]

def Texted (B : Nat) (w : World) (g K : Nat) (N : Nat) (e : Ending) (w' : World) : Prop := ∃ s : ByteArray, s.size ≤ N ∧ e = .returned (.string s) ∧ Cur B w' g K ∧ w.grownBy w' (some g)

def words5 : List ByteArray := [⟨#[]⟩, ⟨#[97]⟩, ⟨#[48, 49, 48, 50]⟩, ⟨#[115, 111, 109, 101, 32, 119, 111, 114, 107]⟩, ⟨#[108, 97, 117, 110, 99, 104, 32, 49]⟩]
theorem words5_le : ∀ x ∈ words5, x.size ≤ 61 := by decide

theorem text (B : Nat) (w : World) (g K : Nat) (h : Cur B w g K) (hK : K ≤ 800000) :
    Calls Tryd.prog 49 #[.pointer (some ⟨g, 0, none⟩)] w (Texted B w g (K + 6) 61) := by
  have hgB := h.lt
  go_enter Tryd.func49, Tryd.ntmps49
  go_wp2_with fail
  refine (of B _ g K ⟨w.heap.size, 0, none⟩ 5 5 words5 rfl (fun j hj => ?_) ⟨?_, ?_⟩ (by omega) (by omega) (h.alloc _) (by omega)).mono ?_
  · rw [add_plain, new_cell]
    match j, hj with
    | 0, _ => rfl
    | 1, _ => rfl
    | 2, _ => rfl
    | 3, _ => rfl
    | 4, _ => rfl
    | n + 5, h => exact absurd h (by simp [words5])
  · simp; omega
  · simp
  rintro e w1 ⟨s, hs, rfl, hC1, hg1⟩
  have hs1 := words5_le s hs
  clear hs
  have hG1 : w.grownBy w1 (some g) := grown_then (World.grownBy_alloc w _ _) hg1
  clear hg1
  go_wp2_with fail
  refine (one B _ g _ 20 hC1 (by omega) (by omega)).mono ?_
  rintro e w2 ⟨b, rfl, hC2, hg2⟩
  have hG2 := grown_then hG1 hg2
  have hgB2 := hC2.lt
  clear hG1 hg2
  cases b with
  | false =>
    go_wp2
    go_ret
    exact ⟨s, hs1, rfl, hC2.more (by omega), hG2⟩
  | true =>
    go_wp2_with fail
    refine (among B _ g _ (some ⟨w2.heap.size, 0, none⟩) 2 2 [60, 61] ?_ ?_ (by omega) (by omega) (hC2.alloc _) (by omega)).mono ?_
    · refine ⟨rfl, by omega, fun _ => ⟨_, rfl, fun j hj => ?_⟩⟩
      rw [add_plain, new_cell]
      match j, hj with
      | 0, _ => rfl
      | 1, _ => rfl
    · intro ad e
      cases e
      simp
      omega
    rintro e w3 ⟨x, hx, rfl, hC3, hg3⟩
    have hG3 : w.grownBy w3 (some g) := grown_then (grown_alloc hG2 _) hg3
    clear hg3 hG2
    obtain ⟨m, rfl, hm⟩ : ∃ m : Nat, x = (m : Int) ∧ m ≤ 61 := by
      simp at hx
      rcases hx with rfl | rfl
      · exact ⟨60, rfl, by omega⟩
      · exact ⟨61, rfl, by omega⟩
    have hmk := print_make (P := Tryd.prog) 28 5 .u8 1 Tryd.underlying28 info5 (by omega) m (by omega)
    have hcv := fun W => str_of_made W m
    clear hx
    go_wp2
    go_ret
    exact ⟨_, by rw [strOfNums_size]; simp; omega, rfl, (hC3.alloc _).more (by omega), grown_alloc hG3 _⟩
end Go.Proofs.YtjhaaaljlpcnaaaDoor.U
