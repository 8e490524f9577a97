/- The draws: what the cursor's spoilt does: a string of at most two bytes more, and only the cursor's own block turns. Conditions: the cursor's block and its bytes as 'Cur' says; the text has at most 1000000 bytes. -/
import Derived.Test.YtjhaaaljlpcnaaaDoorU1
import Derived.IntWalk
namespace Go.Proofs.YtjhaaaljlpcnaaaDoor.U
open Go.RowKit Go.Proofs.YtjhaaaljlpcnaaaDoorW.PrintWords

theorem one_str (w : World) (x : Int) : (convert 28 9 (.slice (some ⟨w.heap.size, 0, none⟩) 1 1)).run Tryd.prog (w.alloc (.cells #[.int .u8 x] 5)) = .ok (.string (strOfNums [x])) (w.alloc (.cells #[.int .u8 x] 5)) := by
  refine run_convert_bytes_arg (w.alloc (.cells #[.int .u8 x] 5)) 28 5 Tryd.underlying28 Tryd.underlying5 w.heap.size 0 1 1 [x] rfl (fun i hi => ?_) 9 Tryd.underlying9
  obtain rfl : i = 0 := by omega
  rw [new_cell]
  rfl

theorem grown_drewN {w W : World} {g : Nat} (h : w.grownBy W (some g)) (n : Nat) : w.grownBy (W.drewN n) (some g) := ⟨h.os, h.tape, h.output, h.size, h.block⟩
theorem Cur.drewN {B : Nat} {w : World} {g K : Nat} (h : Cur B w g K) (n : Nat) : Cur B (w.drewN n) g K := h.keep (fun _ _ => rfl) (Nat.le_refl _)

theorem spoilt (B : Nat) (w : World) (g K : Nat) (s : ByteArray) (hs : s.size ≤ 1000000) (h : Cur B w g K) (hK : K ≤ 700000) :
    Calls Tryd.prog 63 #[.pointer (some ⟨g, 0, none⟩), .string s, .string ⟨#[48, 97]⟩] w (Texted B w g (K + 14) (s.size + 2)) := by
  go_enter Tryd.func63, Tryd.ntmps63
  go_wp2_with fail
  refine (pick B _ g K 2 h (by omega) (by omega)).mono ?_
  rintro e w1 ⟨m, hm, rfl, hC, hg⟩
  have hm1 : m ≤ 1 := by omega
  clear hm
  go_wp2_with fail
  go_loopg [1, 7] 2 (fun gk v1 v7 W => ∃ (t : ByteArray) (n : Nat), Aside0 (n ≤ 2 ∧ n ≤ gk ∧ t.size + n ≤ s.size + 2 ∧ w.grownBy W (some g) ∧ Cur B W g (K + 2 + (2 - n) * 6)) ∧ v1 = .string t ∧ v7 = .int .i64 n)
  case atStart => exact ⟨s, 1 + m, ⟨by omega, by omega, by omega, hg, hC.more (by omega)⟩, rfl, by go_num⟩
  case round =>
    obtain ⟨t, n, HI, rfl, rfl⟩ := hrel
    obtain ⟨h1, h2, h3, h4, h5⟩ := HI.out
    have hts : t.size ≤ 1000002 := by omega
    by_cases hgo : 0 < n ∧ 0 < t.size
    · obtain ⟨hn0, ht0⟩ := hgo
      clear h2 h3 h4 hg hC
      go_wp2_with fail
      refine (pick B _ g _ t.size h5 (by omega) (by omega)).mono ?_
      rintro e w2 ⟨i, hi, rfl, hC2, hg2⟩
      have hi1 : i < t.size := by omega
      clear hi
      go_wp2_with fail
      refine (pick B _ g _ 2 hC2 (by omega) (by omega)).mono ?_
      rintro e w3 ⟨j, hj, rfl, hC3, hg3⟩
      have hj1 : j < 2 := by omega
      clear hj
      have ho := one_str
      go_wp2_with fail
      refine (pick B _ g _ 3 (hC3.alloc _) (by omega) (by omega)).mono ?_
      rintro e w4 ⟨q, hq, rfl, hC4, hg4⟩
      have hG4 : w.grownBy w4 (some g) := grown_then (grown_alloc (grown_then (grown_then HI.out.2.2.2.1 hg2) hg3) _) hg4
      have HG4 := Aside0.mk hG4
      have HC4 := Aside0.mk hC4
      clear hG4 hC4 hg4 hg3 hg2 hC3 hC2 h5
      have i0 : (0 : Int) ≤ (i : Int) := by omega
      have i1 : (i : Int) ≤ (t.size : Int) := by omega
      have i2 : IntKind.i64.wrap ((i : Int) + 1) = (i : Int) + 1 := IntWalk.i64_in _ (by omega)
      have i3 : (0 : Int) ≤ (i : Int) + 1 := by omega
      have i4 : (i : Int) + 1 ≤ (t.size : Int) := by omega
      have i5 : ((i : Int) + 1).toNat = i + 1 := by omega
      have z1 : ∀ c : Int, (strOfNums [c]).size = 1 := fun c => strOfNums_size _
      have e0 : (t.extract 0 i).size = i := by simp; omega
      have e1 : (t.extract i t.size).size = t.size - i := by simp
      have e2 : (t.extract (i + 1) t.size).size = t.size - (i + 1) := by simp
      have a1 := fun (c : Int) (W : World) => run_string_add_sum (P := Tryd.prog) (w := W) (t.extract 0 i) (strOfNums [c]) (by rw [e0, z1]; omega)
      have a2 := fun (c : Int) (W : World) => run_string_add_sum (P := Tryd.prog) (w := W) (t.extract 0 i ++ strOfNums [c]) (t.extract i t.size) (by rw [ByteArray.size_append, e0, z1, e1]; omega)
      have a3 := fun (c : Int) (W : World) => run_string_add_sum (P := Tryd.prog) (w := W) (t.extract 0 i ++ strOfNums [c]) (t.extract (i + 1) t.size) (by rw [ByteArray.size_append, e0, z1, e2]; omega)
      have a4 := fun (W : World) => run_string_add_sum (P := Tryd.prog) (w := W) (t.extract 0 i) (t.extract (i + 1) t.size) (by rw [e0, e2]; omega)
      have HE := Lib.hid (And.intro z1 (And.intro e0 (And.intro e1 e2)))
      clear z1 e0 e1 e2
      by_cases q0 : q = 0
      · subst q0
        go_wp2_with fail
        go_quiet (fail)
        go_wp2_with fail
        go_roundg (gk - 1)
        case measure => have := HI.out; omega
        case rel =>
          obtain ⟨z1, e0, e1, e2⟩ := HE.out
          have := HI.out
          exact ⟨_, n - 1, ⟨by omega, by omega, by rw [ByteArray.size_append, ByteArray.size_append, e0, z1, e1]; omega, grown_drewN HG4.out _, (HC4.out.drewN _).more (by omega)⟩, rfl, by go_num⟩
      · by_cases q1 : q = 1
        · subst q1
          clear q0
          go_wp2_with fail
          go_quiet (fail)
          go_wp2_with fail
          go_roundg (gk - 1)
          case measure => have := HI.out; omega
          case rel =>
            obtain ⟨z1, e0, e1, e2⟩ := HE.out
            have := HI.out
            exact ⟨_, n - 1, ⟨by omega, by omega, by rw [ByteArray.size_append, ByteArray.size_append, e0, z1, e2]; omega, grown_drewN HG4.out _, (HC4.out.drewN _).more (by omega)⟩, rfl, by go_num⟩
        · have q0' : ((q : Int) == 0) = false := by simp; omega
          have q1' : ((q : Int) == 1) = false := by simp; omega
          clear q0 q1
          go_wp2_with fail
          go_quiet (fail)
          go_wp2_with fail
          go_roundg (gk - 1)
          case measure => have := HI.out; omega
          case rel =>
            obtain ⟨z1, e0, e1, e2⟩ := HE.out
            have := HI.out
            exact ⟨_, n - 1, ⟨by omega, by omega, by rw [ByteArray.size_append, e0, e2]; omega, grown_drewN HG4.out _, (HC4.out.drewN _).more (by omega)⟩, rfl, by go_num⟩
    · by_cases hn0 : 0 < n
      · have hz : t.size = 0 := by omega
        have hd : decide ((0 : Int) < (t.size : Int)) = false := decide_eq_false (by omega)
        have hd' : decide (0 < t.size) = false := decide_eq_false (by omega)
        have HZ := Lib.hid hz
        clear hz hgo
        go_wp2
        go_ret
        exact ⟨t, by omega, rfl, h5.more (by omega), h4⟩
      · go_wp2
        go_ret
        exact ⟨t, by omega, rfl, h5.more (by omega), h4⟩
end Go.Proofs.YtjhaaaljlpcnaaaDoor.U
