/- Frames of a store, in plain Lean: a number by so many digits, the sum, a frame; and what padded, l17Digits, frameOf and l17Frame compute. Conditions: the numbers fit their digits; the library's variables as the program lays them. -/
import Derived.Test.YtjhaaaljlpcnaaaDoorX
import Derived.Test.YtjhaaaljlpcnaaaDoorYb
import Derived.Test.YtjhaaaljlpcnaaaDoorZ
namespace Go.Proofs.YtjhaaaljlpcnaaaDoor.S
open Go.RowKit Go.Proofs.YtjhaaaljlpcnaaaDoorW.PrintWords Go.Proofs.YtjhaaaljlpcnaaaDoorW.PrintMore Go.Proofs.YtjhaaaljlpcnaaaDoor.X

def dig : Nat → Nat → List UInt8
  | _, 0 => []
  | n, d + 1 => dig (n / 10) d ++ [UInt8.ofNat (48 + n % 10)]
theorem dig_len : ∀ n d, (dig n d).length = d
  | _, 0 => rfl
  | n, d + 1 => by simp [dig, dig_len (n / 10) d]
theorem dig_zero : ∀ d, dig 0 d = List.replicate d 48
  | 0 => rfl
  | d + 1 => by rw [dig, Nat.zero_div, dig_zero d, List.replicate_succ']; rfl
theorem pad_dec : ∀ d n : Nat, n < 10 ^ (d + 1) → (Lib.decDigits n).length ≤ d + 1 ∧ List.replicate (d + 1 - (Lib.decDigits n).length) 48 ++ Lib.decDigits n = dig n (d + 1)
  | 0, n, h => by
    have h : n < 10 := by simpa using h
    rw [Lib.decDigits_one h, dig, Nat.mod_eq_of_lt h]
    exact ⟨by simp, by simp [dig]⟩
  | d + 1, n, h => by
    by_cases h9 : n < 10
    · rw [Lib.decDigits_one h9, dig, Nat.div_eq_of_lt h9, dig_zero, Nat.mod_eq_of_lt h9]
      exact ⟨by simp, by simp⟩
    · have hd : Lib.decDigits n = Lib.decDigits (n / 10) ++ [UInt8.ofNat (48 + n % 10)] := by rw [Lib.decDigits, dif_neg h9]
      obtain ⟨h1, h2⟩ := pad_dec d (n / 10) (by rw [Nat.pow_succ] at h; omega)
      rw [hd, dig, ← h2]
      refine ⟨by simp; omega, ?_⟩
      simp only [List.length_append, List.length_cons, List.length_nil, List.append_assoc]
      congr 2
      omega
theorem rep48 : ∀ c, Lib.repeatL [48] c = List.replicate c 48
  | 0 => rfl
  | c + 1 => by rw [Lib.repeatL, rep48 c]; rfl

def sumL (l : List UInt8) : Nat := (l.zipIdx.map fun x => x.1.toNat * (x.2 + 1)).sum
def headL (no : Nat) (t : List UInt8) : List UInt8 := dig no 2 ++ dig t.length 2 ++ t
def frameL (no : Nat) (t : List UInt8) : List UInt8 := headL no t ++ dig (sumL (headL no t) % 9973) 4
theorem headL_len (no : Nat) (t : List UInt8) : (headL no t).length = 4 + t.length := by simp [headL, dig_len]; omega
theorem frameL_len (no : Nat) (t : List UInt8) : (frameL no t).length = 8 + t.length := by simp [frameL, headL_len, dig_len]; omega

set_option maxRecDepth 4000 in
theorem padded (n d : Nat) (hd0 : 1 ≤ d) (hd : d ≤ 4) (hn : n < 10 ^ d) (w : World) (hG : GL w) :
    Calls Tryd.prog 68 #[.int .i64 n, .int .i64 d] w fun e w' => e = .returned (.string ⟨(dig n d).toArray⟩) ∧ Below w.heap.size w w' := by
  obtain ⟨d, rfl⟩ : ∃ k, d = k + 1 := ⟨d - 1, by omega⟩
  obtain ⟨h1, h2⟩ := pad_dec d n hn
  have hb : n < 10000 := Nat.lt_of_lt_of_le hn (by rcases (by omega : d = 0 ∨ d = 1 ∨ d = 2 ∨ d = 3) with rfl | rfl | rfl | rfl <;> decide)
  have hi : Lib.itoa (n : Int) = Lib.decDigits n := by simp [Lib.itoa]
  have hA := fun W hW => itoa_b (n : Int) (by omega) (by omega) W hW
  rw [hi] at hA
  rw [← h2, ← rep48]
  clear h2 hi hn
  obtain ⟨L, hL⟩ : ∃ L, L = Lib.decDigits n := ⟨_, rfl⟩
  rw [← hL] at hA h1 ⊢
  have hR := fun W => Tryd.strings_Repeat ⟨#[48]⟩ (d + 1 - L.length) W (by omega) (by simp [ByteArray.size]; omega)
  have hw : wrap64 (((d + 1 : Nat) : Int) - (L.length : Int)) = ((d + 1 - L.length : Nat) : Int) := by
    rw [show ((d + 1 : Nat) : Int) - (L.length : Int) = ((d + 1 - L.length : Nat) : Int) by omega]
    unfold wrap64
    omega
  have hz : (Lib.repeatL [48] (d + 1 - L.length)).length + L.length ≤ 1000 := by rw [Lib.repeatL_length]; simp; omega
  generalize d + 1 - L.length = c at hR hw hz ⊢
  generalize ((d + 1 : Nat) : Int) = D at hw ⊢
  obtain ⟨N, hN⟩ : ∃ N : Int, N = n := ⟨_, rfl⟩
  rw [← hN] at hA ⊢
  clear hN hL h1 hb hd hd0
  go_enter Tryd.func68, Tryd.ntmps68
  go_wp2_with (first | (go_at_call 76; refine (hA _ hG).mono ?_; rintro e w1 ⟨rfl, hb1⟩) | (go_at_call 77; rw [hw]; refine (hR _).mono ?_; rintro e w2 ⟨rfl, hb2⟩))
  · go_ret
    exact ⟨by first | rfl | simp [mk_append], below_then hb1 hb1.size hb2⟩

def digitsB (n d : Nat) : ByteArray := ⟨(dig n d).toArray⟩

theorem dig_more : ∀ j d n : Nat, dig n (d + j) = dig (n / 10 ^ j) d ++ dig n j
  | 0, d, n => by simp [dig]
  | j + 1, d, n => by
    rw [← Nat.add_assoc, dig, dig_more j d (n / 10), dig, List.append_assoc, Nat.div_div_eq_div_mul, Nat.pow_succ, Nat.mul_comm 10]

theorem one_byte (w : World) (x : Int) : (convert 28 9 (.slice (some ⟨w.heap.size, 0, none⟩) 1 1)).run Tryd.prog (w.alloc (.cells #[.int .u8 x] 5)) = .ok (.string ⟨#[UInt8.ofNat x.toNat]⟩) (w.alloc (.cells #[.int .u8 x] 5)) := by
  rw [← Y.strOfNums_one x]
  refine run_convert_bytes_arg (w.alloc (.cells #[.int .u8 x] 5)) 28 5 Tryd.underlying28 Tryd.underlying5 w.heap.size 0 1 1 [x] rfl (fun i hi => ?_) 9 Tryd.underlying9
  obtain rfl : i = 0 := by omega
  simp only [World.alloc, World.cell?, Array.getElem?_push_size]
  rfl

set_option maxRecDepth 20000 in
theorem l17Digits (n d : Nat) (hd : d ≤ 4) (hn : n ≤ 9223372036854775807) (w : World) :
    Calls Tryd.prog 69 #[.int .i64 n, .int .i64 d] w fun e w' => e = .returned (.string ⟨(dig n d).toArray⟩) ∧ Below w.heap.size w w' := by
  go_enter Tryd.func69, Tryd.ntmps69
  go_wp2
  go_loopg [0, 1, 5] d (fun gk v0 v1 v5 W => ∃ i : Nat, Aside0 (i ≤ d ∧ gk = d - i) ∧ v0 = .int .i64 ((n / 10 ^ i : Nat) : Int) ∧ v1 = .int .i64 ((d - i : Nat) : Int) ∧ v5 = .string ⟨(dig n i).toArray⟩ ∧ Aside0 (Below w.heap.size w W))
  case atStart => exact ⟨0, Aside0.mk ⟨by omega, rfl⟩, by simp, by simp, rfl, ⟨Below.refl _ _⟩⟩
  case round =>
    obtain ⟨i, HI, rfl, rfl, rfl, HB⟩ := hrel
    have hi := HI.out
    by_cases hlt : i < d
    · have hm : n / 10 ^ i ≤ 9223372036854775807 := Nat.le_trans (Nat.div_le_self _ _) hn
      obtain ⟨M, hM⟩ : ∃ M : Int, M = ((n / 10 ^ i : Nat) : Int) := ⟨_, rfl⟩
      have HM := Lib.hid hM
      have HL := Lib.hid hlt
      have hm0 : 0 ≤ M := hM ▸ Int.natCast_nonneg _
      have hm1 : M ≤ 9223372036854775807 := by omega
      have hl := dig_len n i
      obtain ⟨D, hD⟩ : ∃ D, D = dig n i := ⟨_, rfl⟩
      have HD := Lib.hid hD
      rw [← hD] at hl
      obtain ⟨J, hJ⟩ : ∃ J : Int, J = ((d - i : Nat) : Int) := ⟨_, rfl⟩
      have HJ := Lib.hid hJ
      have hj1 : 0 < J := by omega
      have hj2 : J ≤ 4 := by omega
      have hl4 : D.length ≤ 4 := by omega
      rw [← hM, ← hD, ← hJ]
      clear hM hD hJ hi hm hl hlt hn hd
      go_wp2
      rw [one_byte]
      go_wp2
      go_roundg (d - (i + 1))
      case measure => have := HI.out; have := HL.out; omega
      case rel =>
        have HL2 := HL.out
        have h10 := dig_more i 1 n
        have HI2 := HI.out
        refine ⟨i + 1, ⟨by omega, rfl⟩, ?_, ?_, ?_, ⟨below_alloc HB.out _⟩⟩
        · rw [HM.out, Nat.pow_succ, ← Nat.div_div_eq_div_mul]
          exact congrArg _ (by omega)
        · rw [HJ.out]
          exact congrArg _ (by omega)
        · have e48 : (48 + M % 10).toNat = 48 + n / 10 ^ i % 10 := by rw [HM.out]; omega
          rw [HD.out, Nat.add_comm i 1, h10, e48]
          exact congrArg Value.string (Y.mk_append [_] _)
    · have he : i = d := by omega
      subst he
      go_wp2
      go_ret
      exact ⟨by simp, HB.out⟩
end Go.Proofs.YtjhaaaljlpcnaaaDoor.S
