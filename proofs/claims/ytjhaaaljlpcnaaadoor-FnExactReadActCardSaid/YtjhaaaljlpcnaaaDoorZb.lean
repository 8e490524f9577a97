/- Plain lemmas on words split at blanks: what the two ways to split give is the same. -/
import Derived.Test.YtjhaaaljlpcnaaaDoorZ
import Derived.Lib.Split
import Derived.Lib.IndexBytes
namespace Go.Proofs.YtjhaaaljlpcnaaaDoor.Y
open Go.RowKit Go.Proofs.YtjhaaaljlpcnaaaDoorW.PrintWords Go.Proofs.YtjhaaaljlpcnaaaDoorW.PrintMore Go.Proofs.YtjhaaaljlpcnaaaDoor.X Go.Proofs.YtjhaaaljlpcnaaaDoor.A

def IsSplit (s : List UInt8) (ws : List (List UInt8)) : Prop := ∃ init last, ws = init ++ [last] ∧ (∀ w ∈ init, (32 : UInt8) ∉ w) ∧ (32 : UInt8) ∉ last ∧ s = (init.flatMap fun w => w ++ [32]) ++ last

theorem IsSplit.one {s : List UInt8} (h : (32 : UInt8) ∉ s) : IsSplit s [s] := ⟨[], s, rfl, by simp, h, by simp⟩
theorem IsSplit.cons {a s : List UInt8} {ws : List (List UInt8)} (ha : (32 : UInt8) ∉ a) (h : IsSplit s ws) : IsSplit (a ++ 32 :: s) (a :: ws) := by
  obtain ⟨init, last, rfl, h1, h2, rfl⟩ := h
  refine ⟨a :: init, last, rfl, ?_, h2, by simp⟩
  intro w hw
  rcases List.mem_cons.1 hw with rfl | hw
  · exact ha
  · exact h1 w hw

theorem cut_inj {a a' r r' : List UInt8} (h : (32 : UInt8) ∉ a) (h' : (32 : UInt8) ∉ a') (e : a ++ 32 :: r = a' ++ 32 :: r') : a = a' ∧ r = r' := by
  induction a generalizing a' with
  | nil =>
    cases a' with
    | nil => simpa using e
    | cons b t => simp at e; exact absurd e.1 (by rintro rfl; exact h' List.mem_cons_self)
  | cons b t ih =>
    cases a' with
    | nil => simp at e; exact absurd e.1 (by rintro rfl; exact h List.mem_cons_self)
    | cons b' t' =>
      simp only [List.cons_append, List.cons.injEq] at e
      obtain ⟨rfl, e⟩ := e
      obtain ⟨rfl, rfl⟩ := ih (fun hh => h (List.mem_cons_of_mem _ hh)) (fun hh => h' (List.mem_cons_of_mem _ hh)) e
      exact ⟨rfl, rfl⟩

theorem IsSplit.uniq {s : List UInt8} {ws ws' : List (List UInt8)} (h : IsSplit s ws) (h' : IsSplit s ws') : ws = ws' := by
  obtain ⟨init, last, rfl, h1, h2, rfl⟩ := h
  obtain ⟨init', last', rfl, h1', h2', e⟩ := h'
  induction init generalizing init' with
  | nil =>
    cases init' with
    | nil => simpa using e
    | cons a r =>
      simp at e
      exact absurd (show (32 : UInt8) ∈ last by rw [e]; simp) h2
  | cons a r ih =>
    cases init' with
    | nil =>
      simp at e
      exact absurd (show (32 : UInt8) ∈ last' by rw [← e]; simp) h2'
    | cons a' r' =>
      have e' : a ++ 32 :: (r.flatMap (fun w => w ++ [32]) ++ last) = a' ++ 32 :: (r'.flatMap (fun w => w ++ [32]) ++ last') := by simpa using e
      obtain ⟨ea, e2⟩ := cut_inj (h1 a List.mem_cons_self) (h1' a' List.mem_cons_self) e'
      subst ea
      have := ih (fun w hw => h1 w (List.mem_cons_of_mem _ hw)) r' (fun w hw => h1' w (List.mem_cons_of_mem _ hw)) e2
      simp [this]

theorem idx_miss (l : List UInt8) (c : UInt8) (h : Lib.indexByte l c = -1) : c ∉ l := by
  induction l with
  | nil => simp
  | cons b l ih =>
    unfold Lib.indexByte at h
    split at h
    · cases h
    · split at h
      · rename_i hb hl
        have := ih (by simpa using hl)
        intro hm
        rcases List.mem_cons.1 hm with rfl | hm
        · simp at hb
        · exact this hm
      · rename_i hl
        have := Lib.indexByte_ge l c
        simp at hl
        omega
theorem idx_hit (l : List UInt8) (c : UInt8) : ∀ i : Nat, Lib.indexByte l c = i → l = l.take i ++ c :: l.drop (i + 1) ∧ c ∉ l.take i := by
  induction l with
  | nil => intro i h; simp [Lib.indexByte] at h
  | cons b l ih =>
    intro i h
    unfold Lib.indexByte at h
    split at h
    · rename_i hb
      obtain rfl : i = 0 := by omega
      simp at hb
      subst hb
      simp
    · rename_i hb
      split at h
      · omega
      · obtain ⟨j, rfl⟩ : ∃ j, i = j + 1 := ⟨i - 1, by have := Lib.indexByte_ge l c; rename_i hl; simp at hl; omega⟩
        obtain ⟨e, hn⟩ := ih j (by omega)
        refine ⟨?_, ?_⟩
        · simp only [List.take_succ_cons, List.drop_succ_cons, List.cons_append]
          rw [← e]
        · rw [List.take_succ_cons]
          intro hm
          rcases List.mem_cons.1 hm with rfl | hm
          · simp at hb
          · exact hn hm

theorem split_K (n : Nat) : ∀ l : List UInt8, l.length ≤ n → IsSplit l (Lib.splitK [32] 0 (Lib.count l [32]) l) := by
  induction n with
  | zero =>
    intro l hl
    have : l = [] := List.length_eq_zero_iff.1 (by omega)
    subst this
    exact IsSplit.one (by simp)
  | succ n ih =>
    intro l hl
    by_cases hm : Lib.index l [32] = -1
    · rw [Lib.count_miss hm]
      refine IsSplit.one (idx_miss l 32 ?_)
      rw [← Lib.index_one]
      exact hm
    · obtain ⟨i, hi⟩ : ∃ i : Nat, Lib.index l [32] = i := ⟨(Lib.index l [32]).toNat, by have := Lib.index_ge l [32]; omega⟩
      rw [Lib.count_hit (by simp) hi, Nat.add_comm, Lib.splitK, if_neg (by simpa using hm), hi]
      obtain ⟨e, hn⟩ := idx_hit l 32 i (by rw [← Lib.index_one]; exact hi)
      have hlen : i < l.length := by
        have := congrArg List.length e
        simp at this
        omega
      have := IsSplit.cons hn (ih (l.drop (i + 1)) (by rw [List.length_drop]; omega))
      rw [← e] at this
      simpa using this
end Go.Proofs.YtjhaaaljlpcnaaaDoor.Y
