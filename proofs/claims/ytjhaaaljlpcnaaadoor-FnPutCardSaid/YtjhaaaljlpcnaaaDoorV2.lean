/- Frames: a frame that is put behind others is read as the last one, in plain Lean. -/
import Derived.Test.YtjhaaaljlpcnaaaDoorV0
namespace Go.Proofs.YtjhaaaljlpcnaaaDoor.V
set_option linter.unusedVariables false
set_option linter.unusedSimpArgs false
open Go.RowKit Go.Proofs.YtjhaaaljlpcnaaaDoorW.PrintWords Go.Proofs.YtjhaaaljlpcnaaaDoor.S

theorem mid_frame (no : Nat) (t : List UInt8) : mid (frameL no t) t.length = t := by
  have e : frameL no t = (dig no 2 ++ dig t.length 2) ++ (t ++ dig (sumL (headL no t) % 9973) 4) := by simp [frameL, headL]
  unfold mid
  rw [e, List.drop_left' (by simp [dig_len]), List.take_left' rfl]
theorem take_frame (no : Nat) (t : List UInt8) (ht : t.length ≤ 60) : takeP no (frameL no t) = some t.length := by
  refine takeP_yes ht ?_
  simp only [okL, Bool.and_eq_true, decide_eq_true_eq, beq_iff_eq]
  have hl := frameL_len no t
  refine ⟨by omega, ?_⟩
  rw [mid_frame, List.take_of_length_le (by omega)]
theorem readP_empty (k no : Nat) : readP k no [] = ([], 0) := readP_none (find_none _ fun j hj => by simp [okL])

theorem readP_snoc : ∀ (k no : Nat) (s t : List UInt8), (readP k no s).2 = s.length → (readP k no s).1.length < k → t.length ≤ 60 →
    (readP k no (s ++ frameL (no + (readP k no s).1.length) t)).1 = (readP k no s).1 ++ [⟨t.toArray⟩]
  | 0, _, _, _, _, h, _ => absurd h (by simp)
  | k + 1, no, s, t, h1, h2, ht => by
    cases h : takeP no s with
    | none =>
      rw [readP_none h] at h1 h2 ⊢
      have hs : s = [] := by
        have : s.length = 0 := h1.symm
        exact List.eq_nil_of_length_eq_zero this
      subst hs
      have e := take_frame no t ht
      have hl := frameL_len no t
      simp only [List.length_nil, Nat.add_zero, List.nil_append]
      rw [readP, e]
      simp only []
      rw [mid_frame, List.drop_of_length_le (by omega), readP_empty]
    | some L =>
      obtain ⟨hL, h3, h4⟩ := take_ok h
      have e : readP (k + 1) no s = (⟨(mid s L).toArray⟩ :: (readP k (no + 1) (s.drop (8 + L))).1, 8 + L + (readP k (no + 1) (s.drop (8 + L))).2) := by rw [readP, h]
      rw [e] at h1 h2 ⊢
      simp only [List.length_cons] at h1 h2 ⊢
      have ih := readP_snoc k (no + 1) (s.drop (8 + L)) t (by simp; omega) (by omega) ht
      rw [readP, takeP_more h]
      simp only []
      rw [mid_more (by omega), List.drop_append_of_le_length (by omega), List.cons_append]
      rw [show no + ((readP k (no + 1) (s.drop (8 + L))).1.length + 1) = no + 1 + (readP k (no + 1) (s.drop (8 + L))).1.length by omega, ih]

/-- What is put is the last text. -/
theorem put_texts (r : Int) (a b t : List UInt8) (h : putC r a b t = 0) (hg : good r a b = true) :
    (readP 99 1 (a ++ putL r a b t)).1 = (readP 99 1 (a ++ b)).1 ++ [⟨t.toArray⟩] ∧ good r a (putL r a b t) = true := by
  have hV : putL r a b t = b ++ frameL ((readP 99 1 (a ++ b)).1.length + 1) t := by unfold putL; rw [if_pos h]
  unfold putC at h
  have h1 : ¬ 60 < t.length := by intro h'; rw [if_pos h'] at h; simp at h
  rw [if_neg h1] at h
  have h2 : ¬ (readP 99 1 (a ++ b)).2 < a.length + b.length := by intro h'; rw [if_pos h'] at h; simp at h
  rw [if_neg h2] at h
  have h3 : ¬ 99 ≤ (readP 99 1 (a ++ b)).1.length := by intro h'; rw [if_pos h'] at h; simp at h
  rw [if_neg h3] at h
  have h4 : ¬ r < (((readP 99 1 (a ++ b)).2 + 8 + t.length : Nat) : Int) := by intro h'; rw [if_pos h'] at h; simp at h
  have hle := readP_le 99 1 (a ++ b)
  rw [List.length_append] at hle
  have hs := readP_snoc 99 1 (a ++ b) t (by rw [List.length_append]; omega) (by omega) (by omega)
  rw [hV, ← List.append_assoc, Nat.add_comm _ 1]
  refine ⟨hs, ?_⟩
  have hg' := of_decide_eq_true hg
  refine decide_eq_true ⟨hg'.1, hg'.2.1, ?_⟩
  rw [List.length_append, frameL_len]
  omega
end Go.Proofs.YtjhaaaljlpcnaaaDoor.V
