/- The texts of the frames at the front of a string, in plain Lean; and what l17Take computes. Conditions: the string has at most 1048576 bytes; at most 99 frames. -/
import Derived.Test.YtjhaaaljlpcnaaaDoorS1
import Derived.WalkSpells
import Derived.Deep.RegionHeld3
import Derived.IntWalk
namespace Go.Proofs.YtjhaaaljlpcnaaaDoor.S
set_option linter.unusedVariables false
set_option linter.unusedSimpArgs false
open Go.RowKit Go.Proofs.YtjhaaaljlpcnaaaDoorW.PrintWords Go.Proofs.YtjhaaaljlpcnaaaDoorW.PrintMore Go.Proofs.YtjhaaaljlpcnaaaDoor.X

theorem ext_list (l : List UInt8) (a b : Nat) : (⟨l.toArray⟩ : ByteArray).extract a b = ⟨((l.drop a).take (b - a)).toArray⟩ := by
  apply ByteArray.ext
  rw [ByteArray.data_extract]
  simp

theorem ext0 (l : List UInt8) (b : Nat) : ((⟨l.toArray⟩ : ByteArray).extract 0 b).toList = l.take b := by
  rw [ext_list, Lib.toList_data]
  simp
def mid (s : List UInt8) (L : Nat) : List UInt8 := (s.drop 4).take L
def okL (no : Nat) (s : List UInt8) (L : Nat) : Bool := decide (L + 8 ≤ s.length) && (frameL no (mid s L) == s.take (8 + L))
def takeP (no : Nat) (s : List UInt8) : Option Nat := (List.range 61).find? (okL no s)
def takeT (no : Nat) (s : List UInt8) : List UInt8 := match takeP no s with | some L => mid s L | none => []

theorem find_step (p : Nat → Bool) (i : Nat) (h : i < 61) (hp : ∀ j, j < i → p j = false) (hi : p i = true) : (List.range 61).find? p = some i := by
  rw [List.find?_range_eq_some]
  exact ⟨hi, List.mem_range.2 h, fun j hj => by simp [hp j hj]⟩
theorem find_none (p : Nat → Bool) (hp : ∀ j, j < 61 → p j = false) : (List.range 61).find? p = none := by
  rw [List.find?_range_eq_none]
  exact fun j hj => by simp [hp j hj]

set_option maxRecDepth 20000 in
theorem l17Take (no : Nat) (s : List UInt8) (hno : no ≤ 1000000) (hs : s.length ≤ 4611686018427387904) (w : World) :
    Calls Tryd.prog 66 #[.string ⟨s.toArray⟩, .int .i64 no] w fun e w' => e = .returned (.tuple #[.string ⟨(takeT no s).toArray⟩, .bool (takeP no s).isSome]) ∧ Below w.heap.size w w' := by
  have C1 := Lib.hid (fun L (h : (mid s L).length ≤ 60) W => l17Frame no (mid s L) hno h W)
  obtain ⟨N, eN⟩ : ∃ N : Int, N = no := ⟨_, rfl⟩
  rw [← eN] at C1 ⊢
  clear eN hno
  obtain ⟨T, hT⟩ : ∃ T, T = takeT no s := ⟨_, rfl⟩
  obtain ⟨B, hB⟩ : ∃ B, B = (takeP no s).isSome := ⟨_, rfl⟩
  rw [← hT, ← hB]
  have HT := Lib.hid hT
  have HB0 := Lib.hid hB
  clear hT hB
  go_enter Tryd.func66, Tryd.ntmps66
  go_wp2
  go_loopg [6] 61 (fun gk v6 W => ∃ i : Nat, Aside0 (i ≤ 61 ∧ gk = 61 - i ∧ ∀ j, j < i → okL no s j = false) ∧ v6 = .int .i64 i ∧ Aside0 (Below w.heap.size w W))
  case atStart => exact ⟨0, ⟨by omega, rfl, fun j hj => absurd hj (by omega)⟩, rfl, ⟨Below.refl _ _⟩⟩
  case round =>
    obtain ⟨i, HI, rfl, HB⟩ := hrel
    have hi := HI.out.1
    by_cases hlt : i ≤ 60 ∧ i + 8 ≤ s.length
    · obtain ⟨h1, h2⟩ := hlt
      have hm : (mid s i).length ≤ 60 := by simp [mid]; omega
      have e1 : (List.take (4 + i - 4) (List.drop 4 s)) = mid s i := by rw [Nat.add_sub_cancel_left]; rfl
      have C2 := Lib.hid (fun W => C1.out i hm W)
      obtain ⟨M, hM⟩ : ∃ M, M = mid s i := ⟨_, rfl⟩
      obtain ⟨F, hF⟩ : ∃ F, F = frameL no (mid s i) := ⟨_, rfl⟩
      rw [← hF] at C2
      rw [← hM] at C2 e1
      have HM := Lib.hid hM
      have HF := Lib.hid hF
      have HE := Lib.hid e1
      clear hi C1 hm e1 hM hF
      go_wp2
      simp only [ext_list, HE.out]
      have s1 : IntKind.i64.wrap (8 + (i : Int)) = 8 + (i : Int) := IntWalk.i64_in _ (by omega)
      have s2 : (0 : Int) ≤ 8 + (i : Int) := by omega
      have s3 : (8 + (i : Int)).toNat = 8 + i := by omega
      have s4 : 8 + (i : Int) ≤ (s.length : Int) := by omega
      go_region_held3 (fun _ => True) (exact trivial) (first | (go_at_call 53; refine (C2.out _).mono ?_; rintro e w1 ⟨rfl, hb1⟩))
      rw [ext0]
      clear s1 s2 s3 s4
      cases hE : (F == List.take (8 + i) s) with
      | true =>
        have HX := Lib.hid hE
        clear hE
        go_wp2
        go_ret2
        have hk : takeP no s = some i := find_step _ i (by omega) HI.out.2.2 (by
          unfold okL
          rw [← HM.out] at *
          rw [← HF.out, HX.out]
          simp [h2])
        refine ⟨?_, below_then (below_drew1 HB.out) HB.out.size hb1⟩
        rw [HT.out, HB0.out, takeT, hk, HM.out]
        rfl
      | false =>
        have HX := Lib.hid hE
        clear hE
        go_wp2
        go_roundg (61 - (i + 1))
        case measure => have := HI.out.2.1; omega
        case rel =>
          refine ⟨i + 1, ⟨by omega, rfl, fun j hj => ?_⟩, by go_num, ⟨below_then (below_drew1 HB.out) HB.out.size hb1⟩⟩
          rcases Nat.lt_or_ge j i with h | h
          · exact HI.out.2.2 j h
          · obtain rfl : j = i := by omega
            unfold okL
            rw [← HF.out, HX.out]
            simp
    · have hn : takeP no s = none := find_none _ fun j hj => by
        rcases Nat.lt_or_ge j i with h | h
        · exact HI.out.2.2 j h
        · have : ¬ j + 8 ≤ s.length := by omega
          simp [okL, this]
      have ht : takeT no s = [] := by simp [takeT, hn]
      have HN := Lib.hid hn
      have HTT := Lib.hid ht
      clear hn ht
      go_wp2
      all_goals
        go_ret2
        refine ⟨?_, HB.out⟩
        rw [HT.out, HB0.out, HN.out, HTT.out]
        rfl
end Go.Proofs.YtjhaaaljlpcnaaaDoor.S
