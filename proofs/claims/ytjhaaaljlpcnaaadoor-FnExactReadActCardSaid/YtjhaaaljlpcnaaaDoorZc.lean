/- Plain lemmas on numbers of one to three digits: how the two readers read them. -/
import Derived.Test.YtjhaaaljlpcnaaaDoorZb
namespace Go.Proofs.YtjhaaaljlpcnaaaDoor.Y
open Go.RowKit Go.Proofs.YtjhaaaljlpcnaaaDoorW.PrintWords Go.Proofs.YtjhaaaljlpcnaaaDoorW.PrintMore Go.Proofs.YtjhaaaljlpcnaaaDoor.X Go.Proofs.YtjhaaaljlpcnaaaDoor.A

def dig3 (n : Nat) : List UInt8 :=
  if n < 10 then [UInt8.ofNat (48 + n)]
  else if n < 100 then [UInt8.ofNat (48 + n / 10), UInt8.ofNat (48 + n % 10)]
  else [UInt8.ofNat (48 + n / 100), UInt8.ofNat (48 + n / 10 % 10), UInt8.ofNat (48 + n % 10)]
theorem dec_dig3 (n : Nat) (h : n < 1000) : Lib.decDigits n = dig3 n := by
  unfold dig3
  split
  · unfold Lib.decDigits
    rw [dif_pos (by omega)]
  · unfold Lib.decDigits
    rw [dif_neg (by omega)]
    split
    · unfold Lib.decDigits
      rw [dif_pos (by omega)]
      rfl
    · unfold Lib.decDigits
      rw [dif_neg (by omega)]
      unfold Lib.decDigits
      rw [dif_pos (by omega), show n / 10 / 10 = n / 100 by omega]
      rfl
theorem atoi_dig : ∀ n < 1000, Lib.atoiAll (dig3 n) = .ok (n : Int) := by decide +kernel
theorem read_dig : ∀ n < 1000, spec_l1Read.f 10 ⟨(dig3 n).toArray⟩ = some (n : Int) := by decide +kernel
theorem no_blank : ∀ n < 1000, (32 : UInt8) ∉ dig3 n := by decide +kernel

theorem dec_eq (n : Int) (h0 : 0 ≤ n) (h1 : n ≤ 999) : dec n = dig3 n.toNat := dec_dig3 _ (by omega)
theorem atoi_dec (n : Int) (h0 : 0 ≤ n) (h1 : n ≤ 999) : Lib.atoiAll (dec n) = .ok n := by
  rw [dec_eq n h0 h1, atoi_dig _ (by omega)]
  congr 1
  omega
theorem blank_dec (n : Int) (h0 : 0 ≤ n) (h1 : n ≤ 999) : (32 : UInt8) ∉ dec n := by
  rw [dec_eq n h0 h1]
  exact no_blank _ (by omega)
theorem itoa_dec (n : Int) (h0 : 0 ≤ n) : Lib.itoa n = dec n := by
  unfold Lib.itoa dec
  rw [if_neg (by omega)]

theorem isSplit_text (x : Int) (r : List Int) (h : ∀ y ∈ x :: r, 0 ≤ y ∧ y ≤ 999) : IsSplit (textL (x :: r)) ((x :: r).map dec) := by
  induction r generalizing x with
  | nil =>
    have := h x List.mem_cons_self
    simp only [textL, List.flatMap_nil, List.append_nil]
    exact IsSplit.one (blank_dec x this.1 this.2)
  | cons y r ih =>
    have hx := h x List.mem_cons_self
    have := IsSplit.cons (blank_dec x hx.1 hx.2) (ih y (fun z hz => h z (List.mem_cons_of_mem _ hz)))
    simpa [textL] using this
end Go.Proofs.YtjhaaaljlpcnaaaDoor.Y
