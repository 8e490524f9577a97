/- Plain lemmas: the reader of one number and the two splits always answer; what readInts gives. -/
import Derived.Test.YtjhaaaljlpcnaaaDoorZc
namespace Go.Proofs.YtjhaaaljlpcnaaaDoor.Y
open Go.RowKit Go.Proofs.YtjhaaaljlpcnaaaDoorW.PrintWords Go.Proofs.YtjhaaaljlpcnaaaDoorW.PrintMore Go.Proofs.YtjhaaaljlpcnaaaDoor.X Go.Proofs.YtjhaaaljlpcnaaaDoor.A

theorem more {α : Type} {g : Nat → Option α} (hm : ∀ k, LeO (g k) (g (k + 1))) {k : Nat} {r : α} (h : g k = some r) : ∀ d, g (k + d) = some r
  | 0 => h
  | d + 1 => hm _ _ (more hm h d)
theorem det {α : Type} {g : Nat → Option α} (hm : ∀ k, LeO (g k) (g (k + 1))) {k k' : Nat} {r r' : α} (h : g k = some r) (h' : g k' = some r') : r = r' := by
  have a := more hm h k'
  have b := more hm h' k
  rw [Nat.add_comm] at b
  exact Option.some.inj (a.symm.trans b)

theorem read_l (s : ByteArray) (hs : s.size < 9223372036854775807) : ∀ d i : Nat, ∀ x : Int, i + d = s.size → ∃ r, spec_l1Read.l0 (d + 1) s x (i : Int) = some r := by
  intro d
  induction d with
  | zero =>
    intro i x h
    refine ⟨x, ?_⟩
    rw [spec_l1Read.l0, if_neg (by omega)]
  | succ d ih =>
    intro i x h
    rw [spec_l1Read.l0, if_pos (by omega), if_pos (by omega)]
    split
    · exact ⟨_, rfl⟩
    · split
      · exact ⟨_, rfl⟩
      · rw [wrap_inc i (by omega)]
        exact ih (i + 1) _ (by omega)
theorem read_f (s : ByteArray) : ∃ r k, spec_l1Read.f k s = some r := by
  by_cases hb : s.size < 9223372036854775807
  · have hj : ∀ b, ∃ r, spec_l1Read.j0 (s.size + 2) s b = some r := by
      intro b
      rw [spec_l1Read.j0]
      split
      · exact ⟨_, rfl⟩
      · exact read_l s hb s.size 0 0 (by omega)
    obtain ⟨r1, h1⟩ := hj true
    by_cases h0 : (s.size : Int) ≥ 1
    · by_cases h6 : (s.size : Int) ≤ 6
      · obtain ⟨r2, h2⟩ := hj (decide ((s.size : Int) > 1))
        obtain ⟨r3, h3⟩ := hj false
        by_cases hb : bt s 0 = 48
        · refine ⟨r2, s.size + 2, ?_⟩
          unfold spec_l1Read.f spec_l1In.f
          rw [if_pos h0]
          simp only [Option.bind_some]
          rw [if_pos (decide_eq_true h6), if_pos (by omega), if_pos hb]
          exact h2
        · refine ⟨r3, s.size + 2, ?_⟩
          unfold spec_l1Read.f spec_l1In.f
          rw [if_pos h0]
          simp only [Option.bind_some]
          rw [if_pos (decide_eq_true h6), if_pos (by omega), if_neg hb]
          exact h3
      · refine ⟨r1, s.size + 2, ?_⟩
        unfold spec_l1Read.f spec_l1In.f
        rw [if_pos h0]
        simp only [Option.bind_some]
        rw [if_neg (by simpa using h6)]
        exact h1
    · refine ⟨r1, s.size + 2, ?_⟩
      unfold spec_l1Read.f spec_l1In.f
      rw [if_neg h0]
      simp only [Option.bind_some]
      rw [if_neg (by decide)]
      exact h1
  · refine ⟨-1, 1, ?_⟩
    unfold spec_l1Read.f spec_l1In.f
    rw [if_pos (by omega)]
    simp only [Option.bind_some]
    rw [if_neg (by simp; omega), spec_l1Read.j0, if_pos rfl]
noncomputable def rdW (s : ByteArray) : Int := Classical.choose (read_f s)
theorem rdW_f (s : ByteArray) : ∃ k, spec_l1Read.f k s = some (rdW s) := Classical.choose_spec (read_f s)
theorem rdW_dec (n : Int) (h0 : 0 ≤ n) (h1 : n ≤ 999) (s : ByteArray) (hs : s.data.toList = dec n) : rdW s = n := by
  obtain ⟨k, hk⟩ := rdW_f s
  have e : s = ⟨(dig3 n.toNat).toArray⟩ := Go.WideShapes.bytes_inj (by rw [hs, dec_eq n h0 h1])
  have h := read_dig n.toNat (by omega)
  rw [← e] at h
  have := det (spec_l1Read.mono s) hk h
  omega

theorem bt_nat (s : ByteArray) (i : Nat) (h : i < s.size) : bt s (i : Int) = (s.data.toList[i]'(by simpa using h)).toNat := by
  have := bt_at s (i : Int) (by simpa using h)
  rw [← this]
  rfl

theorem splitS_l (s : ByteArray) (hs : s.size ≤ 1048576) : ∀ d i j : Nat, ∀ out : List ByteArray, i + d = s.size → j ≤ i → out.length ≤ i → (∀ w ∈ out, (32 : UInt8) ∉ w.data.toList) → s.data.toList.take j = (out.map fun w => w.data.toList).flatMap (fun w => w ++ [32]) → (32 : UInt8) ∉ (s.data.toList.take i).drop j →
    ∃ r, spec_l1Split.l0 (d + 1) s 32 out (j : Int) (i : Int) = some r ∧ IsSplit s.data.toList (r.map fun w => w.data.toList) := by
  intro d
  induction d with
  | zero =>
    intro i j out h hj ho hw ht hn
    refine ⟨out ++ [s.extract j s.size], ?_, ?_⟩
    · rw [spec_l1Split.l0, if_neg (by omega), if_pos (by omega), if_pos (by omega), if_pos (by omega)]
      simp
    · have hl : s.data.toList.length = s.size := by simp
      have e : (s.extract j s.size).data.toList = s.data.toList.drop j := by
        rw [Lib.extract_data, List.take_of_length_le (by simp)]
      refine ⟨out.map fun w => w.data.toList, s.data.toList.drop j, by rw [List.map_append, List.map_cons, List.map_nil, e], ?_, ?_, ?_⟩
      · intro w hw'
        obtain ⟨x, hx, rfl⟩ := List.mem_map.1 hw'
        exact hw x hx
      · rw [List.take_of_length_le (by omega)] at hn
        exact hn
      · rw [← ht, List.take_append_drop]
  | succ d ih =>
    intro i j out h hj ho hw ht hn
    have hi : i < s.size := by omega
    have hil : i < s.data.toList.length := by simpa using hi
    rw [spec_l1Split.l0, if_pos (by omega), if_pos (by omega), bt_nat s i hi]
    have htk : s.data.toList.take (i + 1) = s.data.toList.take i ++ [s.data.toList[i]] := by rw [List.take_succ_eq_append_getElem hil]
    have hlt : (s.data.toList.take i).length = i := by rw [List.length_take]; omega
    by_cases hb : ((s.data.toList[i]).toNat : Int) = 32
    · have hb' : s.data.toList[i] = 32 := by
        apply UInt8.toNat_inj.1
        have : (32 : UInt8).toNat = 32 := rfl
        omega
      rw [if_pos hb, if_pos (by omega), if_pos (by omega), if_pos (by omega), if_pos (by omega), wrap_inc i (by omega)]
      have e : (s.extract (j : Int).toNat (i : Int).toNat).data.toList = (s.data.toList.take i).drop j := by
        rw [Lib.extract_data, List.drop_take]
        simp
      refine ih (i + 1) (i + 1) _ (by omega) (Nat.le_refl _) (by simp; omega) ?_ ?_ ?_
      · intro w hw'
        rcases List.mem_append.1 hw' with hw' | hw'
        · exact hw w hw'
        · rw [List.mem_singleton.1 hw', e]
          exact hn
      · rw [htk, hb', List.map_append, List.flatMap_append, ← ht]
        simp only [List.map_cons, List.map_nil, List.flatMap_cons, List.flatMap_nil, List.append_nil, e]
        rw [← List.append_assoc]
        congr 1
        have h3 : (s.data.toList.take i).take j = s.data.toList.take j := by rw [List.take_take, Nat.min_eq_left hj]
        rw [← h3, List.take_append_drop]
      · rw [List.drop_of_length_le (by rw [List.length_take]; omega)]
        simp
    · rw [if_neg hb, wrap_inc i (by omega)]
      refine ih (i + 1) j out (by omega) (by omega) (by omega) hw ht ?_
      rw [htk, List.drop_append_of_le_length (by omega)]
      intro hm
      rcases List.mem_append.1 hm with hm | hm
      · exact hn hm
      · have := List.mem_singleton.1 hm
        apply hb
        rw [← this]
        rfl
theorem splitS_f (s : ByteArray) (hs : s.size ≤ 1048576) : ∃ k r, spec_l1Split.f k s 32 = some r ∧ IsSplit s.data.toList (r.map fun w => w.data.toList) := by
  obtain ⟨r, h⟩ := splitS_l s hs s.size 0 0 [] (by omega) (Nat.le_refl _) (by simp) (by simp) (by simp) (by simp)
  exact ⟨_, r, h⟩
theorem splitI_f (s : ByteArray) (hs : s.size ≤ 1048576) : ∃ r, strings_Split.f s ⟨#[32]⟩ = some r ∧ IsSplit s.data.toList (r.map fun w => w.data.toList) := by
  refine ⟨_, if_pos ⟨by omega, by show 1 ≤ (1 : Nat); omega⟩, ?_⟩
  have := Lib.splitB_data ⟨#[32]⟩ 0 (Lib.countB s ⟨#[32]⟩) s
  rw [this]
  exact split_K _ _ (Nat.le_refl _)
end Go.Proofs.YtjhaaaljlpcnaaaDoor.Y
