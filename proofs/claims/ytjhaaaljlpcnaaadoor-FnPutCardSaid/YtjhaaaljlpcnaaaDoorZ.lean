/- Plain lemmas on decimal digits, joined words and the loops of l1Num, l1All, l1Read, readInts, allWithin: no program in sight. -/
import Derived.Test.YtjhaaaljlpcnaaaDoorA
import Derived.Lib.ItoaNum
namespace Go.Proofs.YtjhaaaljlpcnaaaDoor.Y
open Go.RowKit Go.Proofs.YtjhaaaljlpcnaaaDoorW.PrintWords Go.Proofs.YtjhaaaljlpcnaaaDoorW.PrintMore Go.Proofs.YtjhaaaljlpcnaaaDoor.X Go.Proofs.YtjhaaaljlpcnaaaDoor.A

def dec (n : Int) : List UInt8 := Lib.decDigits n.toNat
def textL : List Int → List UInt8
  | [] => []
  | x :: r => dec x ++ r.flatMap fun y => 32 :: dec y

theorem mk_append (a b : List UInt8) : (⟨a.toArray⟩ : ByteArray) ++ ⟨b.toArray⟩ = ⟨(a ++ b).toArray⟩ := by
  apply Go.WideShapes.bytes_inj
  rw [Go.Joins.data_append]

theorem dec_len' (m : Nat) : ∀ d : Nat, m < 10 ^ (d + 1) → (Lib.decDigits m).length ≤ d + 1 := by
  intro d
  induction d generalizing m with
  | zero => intro h; unfold Lib.decDigits; rw [dif_pos (by omega)]; simp
  | succ d ih =>
    intro h
    unfold Lib.decDigits
    split
    · simp
    · have := ih (m / 10) (by rw [Nat.pow_succ] at h; omega)
      simp
      omega
theorem dec_len (n : Int) (h1 : n ≤ 9223372036854775807) : (dec n).length ≤ 19 := dec_len' n.toNat 18 (by omega)

theorem textL_snoc (l : List Int) (i : Nat) (h : i < l.length) : textL (l.take (i + 1)) = (if 0 < i then textL (l.take i) ++ [32] else textL (l.take i)) ++ dec (l.getD i 0) := by
  cases l with
  | nil => simp at h
  | cons x r =>
    cases i with
    | zero => simp [textL]
    | succ i =>
      have hr : i < r.length := by simpa using h
      have e := List.take_succ_eq_append_getElem hr
      rw [List.take_succ_cons, List.take_succ_cons, if_pos (Nat.succ_pos _)]
      simp only [textL]
      rw [e, List.flatMap_append]
      simp [hr]
theorem flat_len (r : List Int) (h : ∀ x ∈ r, x ≤ 9223372036854775807) : (r.flatMap fun y => 32 :: dec y).length ≤ 20 * r.length := by
  induction r with
  | nil => simp
  | cons x r ih =>
    have := ih (fun y hy => h y (List.mem_cons_of_mem _ hy))
    have := dec_len x (h x List.mem_cons_self)
    simp only [List.flatMap_cons, List.length_append, List.length_cons]
    omega
theorem textL_len (l : List Int) (h : ∀ x ∈ l, x ≤ 9223372036854775807) : (textL l).length ≤ 20 * l.length := by
  cases l with
  | nil => simp [textL]
  | cons x r =>
    have := flat_len r (fun y hy => h y (List.mem_cons_of_mem _ hy))
    have := dec_len x (h x List.mem_cons_self)
    simp only [textL, List.length_append, List.length_cons]
    omega

theorem strOfNums_one (x : Int) : strOfNums [x] = ⟨#[UInt8.ofNat x.toNat]⟩ := by
  simp [strOfNums]

theorem num_f (m : Nat) : ∀ n : Int, 0 ≤ n → n ≤ 9223372036854775807 → n.toNat < m → ∃ k, spec_l1Num.f k n = some ⟨(dec n).toArray⟩ := by
  induction m with
  | zero => intro n _ _ h; omega
  | succ m ih =>
    intro n h0 h1 hm
    by_cases h : n < 10
    · refine ⟨1, ?_⟩
      simp only [spec_l1Num.f]
      rw [if_pos h, strOfNums_one]
      have e : dec n = [UInt8.ofNat (48 + n.toNat)] := by
        unfold dec Lib.decDigits
        rw [dif_pos (by omega)]
      have e2 : ((wrap64 (48 + n)) % 256).toNat = 48 + n.toNat := by
        unfold wrap64
        omega
      rw [e, e2]
    · obtain ⟨k, hk⟩ := ih (n / 10) (by omega) (by omega) (by omega)
      refine ⟨k + 1, ?_⟩
      have e1 : wrap64 (Int.tdiv n 10) = n / 10 := by
        rw [Int.tdiv_eq_ediv_of_nonneg h0]
        unfold wrap64
        omega
      have e2 : Int.tmod n 10 = n % 10 := Int.tmod_eq_emod_of_nonneg h0
      have e3 : (wrap64 (48 + n % 10)) % 256 = 48 + n % 10 := by
        unfold wrap64
        omega
      have e : dec n = dec (n / 10) ++ [UInt8.ofNat (48 + (n % 10)).toNat] := by
        unfold dec
        conv => lhs; unfold Lib.decDigits
        rw [dif_neg (by omega)]
        have a : n.toNat / 10 = (n / 10).toNat := by omega
        have b : 48 + n.toNat % 10 = (48 + n % 10).toNat := by omega
        rw [a, b]
      simp only [spec_l1Num.f]
      rw [if_neg h, e1, hk]
      simp only [Option.bind_some]
      have e4 : (⟨#[UInt8.ofNat (48 + n % 10).toNat]⟩ : ByteArray) = ⟨([UInt8.ofNat (48 + (n % 10)).toNat] : List UInt8).toArray⟩ := rfl
      rw [e2, e3, strOfNums_one, e4, mk_append, ← e, if_pos]
      have := dec_len (n / 10) (by omega)
      show ((dec (n / 10)).toArray).size + 1 ≤ _
      simp
      omega

def p999 (x : Int) : Bool := decide (0 ≤ x) && decide (x ≤ 999)

theorem wrap_inc (i : Nat) (h : i < 9223372036854775807) : wrap64 ((i : Int) + 1) = ((i + 1 : Nat) : Int) := by
  unfold wrap64
  omega

theorem all_l (l : List Int) (hl : l.length < 9223372036854775807) : ∀ d i : Nat, i + d = l.length → spec_l1All.l0 (d + 1) 0 999 l (l.length : Int) (i : Int) = some ((l.drop i).all p999) := by
  intro d
  induction d with
  | zero =>
    intro i h
    simp only [spec_l1All.l0]
    rw [if_neg (by omega), List.drop_of_length_le (by omega)]
    rfl
  | succ d ih =>
    intro i h
    have hi : i < l.length := by omega
    have e : rd l (i : Int) = l[i] := by simp [rd, hi]
    have hs := ih (i + 1) (by omega)
    rw [← wrap_inc i (by omega)] at hs
    rw [spec_l1All.l0, if_pos (by omega), if_pos (by omega), if_pos (by omega), e, List.drop_eq_getElem_cons hi, List.all_cons]
    unfold spec_l1In.f
    by_cases h0 : l[i] ≥ 0
    · rw [if_pos h0]
      simp only [Option.bind_some]
      by_cases h1 : l[i] ≤ 999
      · rw [if_pos (decide_eq_true h1), hs]
        simp [p999, h0, h1]
      · rw [if_neg (by simpa using h1)]
        simp [p999, h1]
    · rw [if_neg h0]
      simp [p999, h0]
theorem all_f (l : List Int) (hl : l.length < 9223372036854775807) : ∃ k, spec_l1All.f k l 0 999 = some (l.all p999) := ⟨l.length + 1, by
  have := all_l l hl l.length 0 (by omega)
  simpa [spec_l1All.f] using this⟩
theorem within_l (l : List Int) (hl : l.length < 9223372036854775807) : ∀ d i : Nat, i + d = l.length → impl_allWithin.l0 (d + 1) 0 999 l (l.length : Int) (i : Int) = some ((l.drop i).all p999) := by
  intro d
  induction d with
  | zero =>
    intro i h
    simp only [impl_allWithin.l0]
    rw [if_neg (by omega), List.drop_of_length_le (by omega)]
    rfl
  | succ d ih =>
    intro i h
    have hi : i < l.length := by omega
    have e : rd l (i : Int) = l[i] := by simp [rd, hi]
    have hs := ih (i + 1) (by omega)
    rw [← wrap_inc i (by omega)] at hs
    rw [impl_allWithin.l0, if_pos (by omega), if_pos (by omega), if_pos (by omega), e, List.drop_eq_getElem_cons hi, List.all_cons]
    unfold impl_within.f
    by_cases h0 : l[i] ≥ 0
    · rw [if_pos h0]
      simp only [Option.bind_some]
      by_cases h1 : l[i] ≤ 999
      · rw [if_pos (decide_eq_true h1), hs]
        simp [p999, h0, h1]
      · rw [if_neg (by simpa using h1)]
        simp [p999, h1]
    · rw [if_neg h0]
      simp [p999, h0]
theorem within_f (l : List Int) (hl : l.length < 9223372036854775807) : ∃ k, impl_allWithin.f k l 0 999 = some (l.all p999) := ⟨l.length + 1, by
  have := within_l l hl l.length 0 (by omega)
  simpa [impl_allWithin.f] using this⟩
end Go.Proofs.YtjhaaaljlpcnaaaDoor.Y
