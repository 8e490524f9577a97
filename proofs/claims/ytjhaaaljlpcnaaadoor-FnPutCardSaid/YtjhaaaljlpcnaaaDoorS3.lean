/- What l17Read computes: the texts of the frames at the front of a string. Conditions: the string has at most 1048576 bytes. -/
import Derived.Test.YtjhaaaljlpcnaaaDoorS2
namespace Go.Proofs.YtjhaaaljlpcnaaaDoor.S
set_option linter.unusedVariables false
set_option linter.unusedSimpArgs false
open Go.RowKit Go.Proofs.YtjhaaaljlpcnaaaDoorW.PrintWords Go.Proofs.YtjhaaaljlpcnaaaDoorW.PrintMore Go.Proofs.YtjhaaaljlpcnaaaDoor.X Go.Proofs.YtjhaaaljlpcnaaaDoor.A

def readP : Nat → Nat → List UInt8 → List ByteArray × Nat
  | 0, _, _ => ([], 0)
  | k + 1, no, s => match takeP no s with
    | none => ([], 0)
    | some L => (⟨(mid s L).toArray⟩ :: (readP k (no + 1) (s.drop (8 + L))).1, 8 + L + (readP k (no + 1) (s.drop (8 + L))).2)

theorem take_ok {no : Nat} {s : List UInt8} {L : Nat} (h : takeP no s = some L) : L ≤ 60 ∧ L + 8 ≤ s.length ∧ frameL no (mid s L) = s.take (8 + L) := by
  have h1 := List.find?_some h
  have h2 := List.mem_range.1 (List.mem_of_find?_eq_some h)
  simp only [okL, Bool.and_eq_true, decide_eq_true_eq, beq_iff_eq] at h1
  exact ⟨by omega, h1.1, h1.2⟩
theorem mid_len {s : List UInt8} {L : Nat} (h : L + 8 ≤ s.length) : (mid s L).length = L := by simp [mid]; omega

theorem readP_none {k no : Nat} {s : List UInt8} (h : takeP no s = none) : readP k no s = ([], 0) := by
  cases k with
  | zero => rfl
  | succ k => rw [readP, h]
theorem readP_some {k no L : Nat} {s : List UInt8} (h : takeP no s = some L) (hk : 0 < k) : readP k no s = (⟨(mid s L).toArray⟩ :: (readP (k - 1) (no + 1) (s.drop (8 + L))).1, 8 + L + (readP (k - 1) (no + 1) (s.drop (8 + L))).2) := by
  obtain ⟨k, rfl⟩ : ∃ j, k = j + 1 := ⟨k - 1, by omega⟩
  rw [readP, h]
  rfl

set_option maxRecDepth 20000 in
set_option maxHeartbeats 1000000 in
theorem l17Read (s : List UInt8) (hs : s.length ≤ 1048576) (w : World) :
    Calls Tryd.prog 48 #[.string ⟨s.toArray⟩] w fun e w' => ∃ v, e = .returned (.tuple #[v, .int .i64 ((readP 99 1 s).2 : Nat)]) ∧ Kd.R Kd.string 9 w' w.heap.size (fun _ => True) v (readP 99 1 s).1 ∧ Below w.heap.size w w' := by
  obtain ⟨R, hR⟩ : ∃ R, R = readP 99 1 s := ⟨_, rfl⟩
  rw [← hR]
  have HR := Lib.hid hR
  clear hR
  go_enter Tryd.func48, Tryd.ntmps48
  go_wp2
  go_loopg [4, 5] 100 (fun gk v4 v5 W => ∃ (i a : Nat) (l : List ByteArray), Aside0 (i ≤ 99 ∧ gk = 100 - i ∧ l.length = i ∧ a ≤ s.length ∧ R = (l ++ (readP (99 - i) (i + 1) (s.drop a)).1, a + (readP (99 - i) (i + 1) (s.drop a)).2)) ∧ v5 = .int .i64 a ∧ Aside0 (Kd.R Kd.string 9 W w.heap.size (fun _ => True) v4 l) ∧ Aside0 (Below w.heap.size w W))
  case atStart => exact ⟨0, 0, [], ⟨by omega, rfl, rfl, by omega, by rw [HR.out]; simp⟩, rfl, ⟨Kd.R_nil _ _ _ _ _⟩, ⟨Below.refl _ _⟩⟩
  case round =>
    obtain ⟨i, a, l, HI, rfl, HO, HB⟩ := hrel
    have hi := HI.out.1
    have hll := HI.out.2.2.1
    subst hll
    have ha := HI.out.2.2.2.1
    obtain ⟨A, c, hv, hl, hC⟩ := Kd.R_reads HO.out
    subst hv
    by_cases hlt : l.length < 99
    · have hC1 := fun W => l17Take (l.length + 1) (s.drop a) (by omega) (by simp; omega) W
      have ed : List.take (s.length - a) (List.drop a s) = s.drop a := List.take_of_length_le (by simp)
      have HE := Lib.hid ed
      have hlt1 : l.length < 99 := by omega
      have hci : ((l.length + 1 : Nat) : Int) = (l.length : Int) + 1 := by omega
      rw [hci] at hC1
      cases hk : takeP (l.length + 1) (s.drop a) with
      | none =>
        have et : takeT (l.length + 1) (s.drop a) = [] := by rw [takeT, hk]
        rw [et, hk] at hC1
        have C1 := Lib.hid hC1
        have HK := Lib.hid hk
        clear hC1 ed hk et hC hl hi hci
        go_wp2_with (first | (go_at_call 66; simp only [ext_list, HE.out]; refine (C1.out _).mono ?_; rintro e w1 ⟨rfl, hb1⟩))
        go_ret2
        have eR := HI.out.2.2.2.2
        rw [readP_none HK.out] at eR
        refine ⟨.slice A l.length c, ?_, ?_, below_then HB.out HB.out.size hb1⟩
        · rw [eR]
          exact rfl
        · rw [eR, List.append_nil]
          exact Kd.R_below HO.out hb1
      | some L =>
        obtain ⟨hL, hL2, _⟩ := take_ok hk
        have et : takeT (l.length + 1) (s.drop a) = mid (s.drop a) L := by rw [takeT, hk]
        have em := mid_len hL2
        rw [List.length_drop] at hL2
        rw [et, hk] at hC1
        obtain ⟨M, hM⟩ : ∃ M, M = mid (s.drop a) L := ⟨_, rfl⟩
        rw [← hM] at hC1 em
        have C1 := Lib.hid hC1
        have HM := Lib.hid hM
        have HK := Lib.hid hk
        clear hC1 ed hk et hC hl hi hci hM
        go_wp2_with (first | (go_at_call 66; simp only [ext_list, HE.out]; refine (C1.out _).mono ?_; rintro e w1 ⟨rfl, hb1⟩) | ((with_reducible refine gate_builtin (b := .append) (xs := #[.tmp 23, .tmp 25]) rfl ?_); at_builtin; refine Kd.R_append Kd.string (w0 := w) w.heap.size rfl (.tmp 23) (.tmp 25) 37 9 (.string ⟨#[]⟩) 16 rfl Tryd.underlying37 info9 rfl (by decide) (by omega) (.slice A l.length c) l ⟨M.toArray⟩ [.string ⟨M.toArray⟩] (fun _ => True) (fun _ => False) rfl rfl ?aP (fun _ hk => hk.elim) ?aF ?aO ?aB ?aS ?aL ?_; (case aP => exact rfl); (case aB => exact below_then HB.out HB.out.size hb1); (case aF => exact fun _ _ => trivial); (case aO => exact Kd.R_below HO.out hb1); (case aS => exact Nat.le_trans HB.out.size hb1.size); (case aL => (clear HI; omega)); intro v3 w3 ho hb3 hg3 hat3))
        go_roundg (100 - (l.length + 1))
        case measure => have := HI.out.2.1; omega
        case rel =>
          have eR := HI.out.2.2.2.2
          rw [readP_some HK.out (by omega), ← HM.out, List.drop_drop] at eR
          have HI2 := HI.out
          refine ⟨l.length + 1, a + (8 + L), l ++ [⟨M.toArray⟩], ⟨by omega, rfl, by simp, by omega, ?_⟩, rfl, ⟨ho⟩, ⟨hb3⟩⟩
          rw [eR, show 99 - (l.length + 1) = 99 - l.length - 1 by omega, List.append_assoc, List.singleton_append, Nat.add_assoc a]
    · have he : l.length = 99 := by omega
      have eR := HI.out.2.2.2.2
      rw [he] at eR
      have eR2 : R = (l, a) := by rw [eR]; simp [readP]
      have HR2 := Lib.hid eR2
      clear eR eR2
      go_wp2
      go_ret2
      refine ⟨.slice A l.length c, ?_, ?_, HB.out⟩
      · rw [HR2.out, he]
        exact rfl
      · rw [HR2.out]
        exact HO.out
end Go.Proofs.YtjhaaaljlpcnaaaDoor.S
