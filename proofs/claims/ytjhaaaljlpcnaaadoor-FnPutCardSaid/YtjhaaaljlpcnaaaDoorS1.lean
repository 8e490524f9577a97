/- A frame: what l17Sum, frameOf and l17Frame compute. Conditions: the text has at most 60 bytes, the number at most two digits; the library's variables as the program lays them. -/
import Derived.Test.YtjhaaaljlpcnaaaDoorS0
namespace Go.Proofs.YtjhaaaljlpcnaaaDoor.S
open Go.RowKit Go.Proofs.YtjhaaaljlpcnaaaDoorW.PrintWords Go.Proofs.YtjhaaaljlpcnaaaDoorW.PrintMore Go.Proofs.YtjhaaaljlpcnaaaDoor.X

theorem sum_snoc (l : List UInt8) (x : UInt8) : sumL (l ++ [x]) = sumL l + x.toNat * (l.length + 1) := by
  simp [sumL, List.zipIdx_append]
theorem sum_take (l : List UInt8) (i : Nat) (h : i < l.length) : sumL (l.take (i + 1)) = sumL (l.take i) + (l.getD i 0).toNat * (i + 1) := by
  rw [List.take_succ_eq_append_getElem h, sum_snoc]
  simp [h, Nat.min_eq_left (Nat.le_of_lt h)]
theorem sum_le (l : List UInt8) (hl : l.length ≤ 100) : ∀ i : Nat, i ≤ l.length → sumL (l.take i) ≤ 25600 * i
  | 0, _ => by simp [sumL]
  | i + 1, h => by
    rw [sum_take l i (by omega)]
    have h1 := sum_le l hl i (by omega)
    have h2 : (l.getD i 0).toNat * (i + 1) ≤ 256 * 100 := Nat.mul_le_mul (Nat.le_of_lt (UInt8.toNat_lt _)) (by omega)
    omega

theorem wrap_id (x : Int) (h0 : 0 ≤ x) (h1 : x ≤ 9223372036854775807) : wrap64 x = x := by unfold wrap64; omega
theorem byte_at (s : List UInt8) (i : Nat) (h : i < s.length) (h' : i < (⟨s.toArray⟩ : ByteArray).size) : ((⟨s.toArray⟩ : ByteArray)[i]'h').toNat = (s.getD i 0).toNat := by
  have e : ((⟨s.toArray⟩ : ByteArray)[i]'h') = s[i] := rfl
  rw [e]
  simp [h]
theorem mul_step (b i : Nat) (hb : b < 256) (hi : i ≤ 100) : wrap64 (((i : Int) + 1) * wrap64 (b : Int)) = ((b * (i + 1) : Nat) : Int) ∧ b * (i + 1) ≤ 25856 := by
  have h1 : b * (i + 1) ≤ 256 * 101 := Nat.mul_le_mul (by omega) (by omega)
  have h2 : ((i : Int) + 1) * (b : Int) = ((b * (i + 1) : Nat) : Int) := by rw [Int.mul_comm]; simp
  rw [wrap_id (b : Int) (by omega) (by omega), h2, wrap_id _ (by omega) (by omega)]
  exact ⟨rfl, by omega⟩

set_option maxRecDepth 20000 in
theorem l17Sum (s : List UInt8) (hs : s.length ≤ 100) (w : World) :
    Calls Tryd.prog 70 #[.string ⟨s.toArray⟩] w fun e w' => e = .returned (.int .i64 ((sumL s % 9973 : Nat) : Int)) ∧ Below w.heap.size w w' := by
  go_enter Tryd.func70, Tryd.ntmps70
  go_wp2
  go_loopg [3, 4] s.length (fun gk v3 v4 W => ∃ i : Nat, Aside0 (i ≤ s.length ∧ gk = s.length - i) ∧ v3 = .int .i64 ((sumL (s.take i) % 9973 : Nat) : Int) ∧ v4 = .int .i64 i ∧ Aside0 (Below w.heap.size w W))
  case atStart => exact ⟨0, ⟨by omega, rfl⟩, rfl, rfl, ⟨Below.refl _ _⟩⟩
  case round =>
    obtain ⟨i, HI, rfl, rfl, HB⟩ := hrel
    have hi := HI.out
    by_cases hlt : i < s.length
    · have h1 := sum_take s i hlt
      have HS := Lib.hid h1
      obtain ⟨A, hA⟩ : ∃ A : Int, A = ((sumL (s.take i) % 9973 : Nat) : Int) := ⟨_, rfl⟩
      have HA := Lib.hid hA
      have a0 : 0 ≤ A := hA ▸ Int.natCast_nonneg _
      have a1 : A ≤ 9973 := by omega
      rw [← hA]
      clear hA h1 hi
      go_wp2
      go_roundg (s.length - (i + 1))
      case measure => have := HI.out; omega
      case rel =>
        have HI2 := HI.out
        refine ⟨i + 1, ⟨by omega, rfl⟩, ?_, rfl, HB⟩
        obtain ⟨e1, e2⟩ := mul_step (s.getD i 0).toNat i (UInt8.toNat_lt _) (by omega)
        rw [byte_at s i hlt, e1, HS.out, HA.out, wrap_id _ (by omega) (by omega), Int.tmod_eq_emod_of_nonneg (by omega)]
        exact congrArg _ (by omega)
    · have he : i = s.length := by omega
      subst he
      go_wp2
      go_ret
      exact ⟨by simp, HB.out⟩

set_option maxRecDepth 20000 in
theorem frameOf (no : Nat) (t : List UInt8) (hno : no ≤ 99) (ht : t.length ≤ 60) (w : World) (hG : GL w) :
    Calls Tryd.prog 52 #[.int .i64 no, .string ⟨t.toArray⟩] w fun e w' => e = .returned (.string ⟨(frameL no t).toArray⟩) ∧ Below w.heap.size w w' := by
  have c1 : ∀ W, GL W → Calls Tryd.prog 68 #[.int .i64 no, .int .i64 2] W fun e w' => e = .returned (.string ⟨(dig no 2).toArray⟩) ∧ Below W.heap.size W w' := fun W hW => padded no 2 (by omega) (by omega) (by omega) W hW
  have c2 : ∀ W, GL W → Calls Tryd.prog 68 #[.int .i64 t.length, .int .i64 2] W fun e w' => e = .returned (.string ⟨(dig t.length 2).toArray⟩) ∧ Below W.heap.size W w' := fun W hW => padded t.length 2 (by omega) (by omega) (by omega) W hW
  have c3 : ∀ W, GL W → Calls Tryd.prog 68 #[.int .i64 ((sumL (headL no t) % 9973 : Nat) : Int), .int .i64 4] W fun e w' => e = .returned (.string ⟨(dig (sumL (headL no t) % 9973) 4).toArray⟩) ∧ Below W.heap.size W w' := fun W hW => padded (sumL (headL no t) % 9973) 4 (by omega) (by omega) (by omega) W hW
  have l1 := dig_len no 2
  have l2 := dig_len t.length 2
  have l3 := dig_len (sumL (headL no t) % 9973) 4
  have hh : headL no t = dig no 2 ++ dig t.length 2 ++ t := rfl
  have HH := Lib.hid hh
  have hf : frameL no t = headL no t ++ dig (sumL (headL no t) % 9973) 4 := rfl
  have lh := headL_len no t
  rw [hf]
  obtain ⟨D1, e1⟩ : ∃ D, D = dig no 2 := ⟨_, rfl⟩
  obtain ⟨D2, e2⟩ : ∃ D, D = dig t.length 2 := ⟨_, rfl⟩
  obtain ⟨D3, e3⟩ : ∃ D, D = dig (sumL (headL no t) % 9973) 4 := ⟨_, rfl⟩
  obtain ⟨N, eN⟩ : ∃ N : Int, N = no := ⟨_, rfl⟩
  rw [← e1] at c1 l1 HH
  rw [← e2] at c2 l2 HH
  rw [← e3] at c3 l3 ⊢
  rw [← eN] at c1 ⊢
  obtain ⟨Z, hZ⟩ : ∃ Z : Int, Z = ((sumL (headL no t) % 9973 : Nat) : Int) := ⟨_, rfl⟩
  have HZ := Lib.hid hZ
  rw [← hZ] at c3
  obtain ⟨s, hs⟩ : ∃ s, s = headL no t := ⟨_, rfl⟩
  rw [← hs] at HZ HH lh ⊢
  clear hh hf e1 e2 e3 eN hs hZ
  have C1 := Lib.hid c1
  have C2 := Lib.hid c2
  have C3 := Lib.hid c3
  clear c1 c2 c3 hno
  go_enter Tryd.func52, Tryd.ntmps52
  go_wp2_with (first | (go_at_call 68; first | (have hq := hb1; clear hq; refine (C2.out _ (hG.below hb1)).mono ?_; rintro e w2 ⟨rfl, hb2⟩; have hB2 := below_then hb1 hb1.size hb2) | (refine (C1.out _ hG).mono ?_; rintro e w1 ⟨rfl, hb1⟩)))
  simp only [Y.mk_append, ← HH.out]
  have HB2 := Aside0.mk hB2
  go_loopg [6, 18] s.length (fun gk v6 v18 W => ∃ i : Nat, Aside0 (i ≤ s.length ∧ gk = s.length - i) ∧ v6 = .int .i64 ((sumL (s.take i) : Nat) : Int) ∧ v18 = .int .i64 i ∧ Aside0 (Below w.heap.size w W))
  case atStart => exact ⟨0, ⟨by omega, rfl⟩, rfl, rfl, HB2⟩
  case round =>
    obtain ⟨i, HI, rfl, rfl, HB⟩ := hrel
    have hi := HI.out
    by_cases hlt : i < s.length
    · have h1 := sum_take s i hlt
      have HS := Lib.hid h1
      have h2 := sum_le s (by omega) i (by omega)
      obtain ⟨A, hA⟩ : ∃ A : Int, A = ((sumL (s.take i) : Nat) : Int) := ⟨_, rfl⟩
      have HA := Lib.hid hA
      have a0 : 0 ≤ A := hA ▸ Int.natCast_nonneg _
      have a1 : A ≤ 2560000 := by omega
      rw [← hA]
      clear hA h1 h2 hi
      go_wp2
      go_roundg (s.length - (i + 1))
      case measure => have := HI.out; omega
      case rel =>
        have HI2 := HI.out
        refine ⟨i + 1, ⟨by omega, rfl⟩, ?_, rfl, HB⟩
        obtain ⟨e1, e2⟩ := mul_step (s.getD i 0).toNat i (UInt8.toNat_lt _) (by omega)
        have hAo := HA.out
        rw [byte_at s i hlt, Int.mul_comm, e1, HS.out, HA.out, wrap_id _ (by omega) (by omega)]
        exact congrArg _ (by omega)
    · have he : i = s.length := by omega
      have h2 := sum_le s (by omega) i (by omega)
      have h3 : s.take i = s := by rw [he]; exact List.take_length
      obtain ⟨A, hA⟩ : ∃ A : Int, A = ((sumL (s.take i) : Nat) : Int) := ⟨_, rfl⟩
      have a0 : 0 ≤ A := hA ▸ Int.natCast_nonneg _
      have a1 : A ≤ 2560000 := by omega
      have hm : A % 9973 = Z := by rw [HZ.out, hA, h3]; omega
      have HM := Lib.hid hm
      rw [← hA]
      clear hA h2 h3 hi hm
      go_wp2_with (first | (go_at_call 68; rw [HM.out]; refine (C3.out _ (hG.below HB.out)).mono ?_; rintro e w3 ⟨rfl, hb3⟩))
      go_ret
      exact ⟨congrArg _ (congrArg Value.string (Y.mk_append _ _)), below_then HB.out HB.out.size hb3⟩

set_option maxRecDepth 20000 in
theorem l17Frame (no : Nat) (t : List UInt8) (hno : no ≤ 1000000) (ht : t.length ≤ 60) (w : World) :
    Calls Tryd.prog 53 #[.int .i64 no, .string ⟨t.toArray⟩] w fun e w' => e = .returned (.string ⟨(frameL no t).toArray⟩) ∧ Below w.heap.size w w' := by
  have c1 : ∀ W, Calls Tryd.prog 69 #[.int .i64 no, .int .i64 2] W fun e w' => e = .returned (.string ⟨(dig no 2).toArray⟩) ∧ Below W.heap.size W w' := fun W => l17Digits no 2 (by omega) (by omega) W
  have c2 : ∀ W, Calls Tryd.prog 69 #[.int .i64 t.length, .int .i64 2] W fun e w' => e = .returned (.string ⟨(dig t.length 2).toArray⟩) ∧ Below W.heap.size W w' := fun W => l17Digits t.length 2 (by omega) (by omega) W
  have c3 : ∀ W, Calls Tryd.prog 69 #[.int .i64 ((sumL (headL no t) % 9973 : Nat) : Int), .int .i64 4] W fun e w' => e = .returned (.string ⟨(dig (sumL (headL no t) % 9973) 4).toArray⟩) ∧ Below W.heap.size W w' := fun W => l17Digits (sumL (headL no t) % 9973) 4 (by omega) (by omega) W
  have c4 := fun W => l17Sum (headL no t) (by rw [headL_len]; omega) W
  have l1 := dig_len no 2
  have l2 := dig_len t.length 2
  have l3 := dig_len (sumL (headL no t) % 9973) 4
  have hh : headL no t = dig no 2 ++ dig t.length 2 ++ t := rfl
  have HH := Lib.hid hh
  have hf : frameL no t = headL no t ++ dig (sumL (headL no t) % 9973) 4 := rfl
  have lh := headL_len no t
  rw [hf]
  obtain ⟨D1, e1⟩ : ∃ D, D = dig no 2 := ⟨_, rfl⟩
  obtain ⟨D2, e2⟩ : ∃ D, D = dig t.length 2 := ⟨_, rfl⟩
  obtain ⟨D3, e3⟩ : ∃ D, D = dig (sumL (headL no t) % 9973) 4 := ⟨_, rfl⟩
  obtain ⟨N, eN⟩ : ∃ N : Int, N = no := ⟨_, rfl⟩
  rw [← e1] at c1 l1 HH
  rw [← e2] at c2 l2 HH
  rw [← e3] at c3 l3 ⊢
  rw [← eN] at c1 ⊢
  obtain ⟨Z, hZ⟩ : ∃ Z : Int, Z = ((sumL (headL no t) % 9973 : Nat) : Int) := ⟨_, rfl⟩
  rw [← hZ] at c3 c4
  obtain ⟨s, hs⟩ : ∃ s, s = headL no t := ⟨_, rfl⟩
  rw [← hs] at c4 HH lh ⊢
  clear hh hf e1 e2 e3 eN hs hZ
  have C1 := Lib.hid c1
  have C2 := Lib.hid c2
  have C3 := Lib.hid c3
  have C4 := Lib.hid c4
  clear c1 c2 c3 c4 hno
  go_enter Tryd.func53, Tryd.ntmps53
  go_wp2_with (first | (go_at_call 70; simp only [Y.mk_append, ← HH.out]; refine (C4.out _).mono ?_; rintro e w3 ⟨rfl, hb3⟩) | (go_at_call 69; first | (have hq := hb3; clear hq; refine (C3.out _).mono ?_; rintro e w4 ⟨rfl, hb4⟩) | (have hq := hb1; clear hq; refine (C2.out _).mono ?_; rintro e w2 ⟨rfl, hb2⟩) | (refine (C1.out _).mono ?_; rintro e w1 ⟨rfl, hb1⟩)))
  go_ret
  have hB2 := below_then hb1 hb1.size hb2
  have hB3 := below_then hB2 hB2.size hb3
  exact ⟨congrArg _ (congrArg Value.string (Y.mk_append _ _)), below_then hB3 hB3.size hb4⟩
end Go.Proofs.YtjhaaaljlpcnaaaDoor.S
