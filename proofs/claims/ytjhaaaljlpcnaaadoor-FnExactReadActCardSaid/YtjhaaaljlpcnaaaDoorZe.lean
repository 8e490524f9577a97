/- Plain lemmas: what readInts gives; which texts the two readers of an action take. -/
import Derived.Test.YtjhaaaljlpcnaaaDoorZd
namespace Go.Proofs.YtjhaaaljlpcnaaaDoor.Y
open Go.RowKit Go.Proofs.YtjhaaaljlpcnaaaDoorW.PrintWords Go.Proofs.YtjhaaaljlpcnaaaDoorW.PrintMore Go.Proofs.YtjhaaaljlpcnaaaDoor.X Go.Proofs.YtjhaaaljlpcnaaaDoor.A

def rv (w : ByteArray) : Int × Bool :=
  match Lib.atoiAll w.data.toList with
  | .ok v => if Lib.itoa v = w.data.toList then (v, true) else (0, false)
  | _ => (0, false)
theorem readInt_rv (w : ByteArray) (h : w.size ≤ 281474976710656) : impl_readInt.f w = some (rv w) := by
  unfold impl_readInt.f rv
  rw [if_pos h]
  cases Lib.atoiAll w.data.toList <;> rfl

theorem readInts_l (ws : List ByteArray) (hw : ∀ w ∈ ws, w.size ≤ 281474976710656) (hl : ws.length < 9223372036854775807) : ∀ d i : Nat, ∀ acc : List Int, acc.length = ws.length → i + d = ws.length →
    impl_readInts.l0 (d + 1) acc ws (ws.length : Int) (i : Int) = some (if (ws.drop i).all (fun w => (rv w).2) = true then (acc.take i ++ (ws.drop i).map (fun w => (rv w).1), true) else ([], false)) := by
  intro d
  induction d with
  | zero =>
    intro i acc ha h
    rw [impl_readInts.l0, if_neg (by omega), List.drop_of_length_le (by omega)]
    simp [List.take_of_length_le (show acc.length ≤ i by omega)]
  | succ d ih =>
    intro i acc ha h
    have hi : i < ws.length := by omega
    have e : rdOf ByteArray.empty ws (i : Int) = ws[i] := by simp [rdOf, hi]
    rw [impl_readInts.l0, if_pos (by omega), if_pos (by omega), if_pos (by omega), e, readInt_rv _ (hw _ (List.getElem_mem hi)), List.drop_eq_getElem_cons hi]
    simp only [Option.bind_some, List.all_cons, List.map_cons]
    by_cases hb : (rv ws[i]).2 = true
    · rw [if_pos hb, if_pos (by omega), wrap_inc i (by omega), ih (i + 1) _ (by simp [ha]) (by omega), hb, Bool.true_and]
      have : (acc.set (i : Int).toNat (rv ws[i]).1).take (i + 1) = acc.take i ++ [(rv ws[i]).1] := by
        rw [show (i : Int).toNat = i from rfl, List.take_succ_eq_append_getElem (by simp; omega), List.take_set, List.set_eq_of_length_le (by simp; omega)]
        simp
      rw [this]
      simp
    · rw [if_neg hb]
      have hf : (rv ws[i]).2 = false := by simpa using hb
      rw [hf]
      simp
theorem readInts_f (ws : List ByteArray) (hw : ∀ w ∈ ws, w.size ≤ 281474976710656) (hl : ws.length ≤ 1048577) :
    ∃ k, impl_readInts.f k ws = some (if ws.all (fun w => (rv w).2) = true then (ws.map (fun w => (rv w).1), true) else ([], false)) := by
  refine ⟨ws.length + 1, ?_⟩
  unfold impl_readInts.f
  rw [if_pos (by omega), if_pos (by omega)]
  have := readInts_l ws hw (by omega) ws.length 0 (List.replicate (ws.length : Int).toNat 0) (by simp) (by omega)
  simpa using this

theorem isSplit_len {s : List UInt8} {ws : List (List UInt8)} (h : IsSplit s ws) : (∀ w ∈ ws, w.length ≤ s.length) ∧ ws.length ≤ s.length + 1 := by
  obtain ⟨init, last, rfl, hi, hl, rfl⟩ := h
  clear hi hl
  induction init with
  | nil => simp
  | cons a r ih =>
    obtain ⟨h1, h2⟩ := ih
    refine ⟨?_, ?_⟩
    · intro w hw
      rcases List.mem_cons.1 hw with rfl | hw
      · simp
      · have := h1 w hw
        simp at this ⊢
        omega
    · simp at h2 ⊢
      omega
theorem isSplit_fun {s s' : List UInt8} {ws : List (List UInt8)} (h : IsSplit s ws) (h' : IsSplit s' ws) : s = s' := by
  obtain ⟨init, last, rfl, _, _, rfl⟩ := h
  obtain ⟨init', last', e, _, _, rfl⟩ := h'
  obtain ⟨rfl, e⟩ := List.append_inj' e rfl
  obtain rfl : last = last' := by simpa using e
  rfl

theorem rv_dec (w : ByteArray) (n : Int) (h0 : 0 ≤ n) (h1 : n ≤ 999) (h : w.data.toList = dec n) : rv w = (n, true) := by
  unfold rv
  rw [h, atoi_dec n h0 h1]
  simp only
  rw [if_pos (itoa_dec n h0)]
theorem rv_of (w : ByteArray) (h : (rv w).2 = true) : ∃ v, Lib.itoa v = w.data.toList ∧ rv w = (v, true) := by
  unfold rv at h ⊢
  split at h
  · rename_i v hv
    split at h
    · rename_i he
      exact ⟨v, he, by rw [if_pos he]⟩
    · cases h
  · cases h
theorem dec_of_rv (w : ByteArray) (h : (rv w).2 = true) (h0 : 0 ≤ (rv w).1) : w.data.toList = dec (rv w).1 := by
  obtain ⟨v, hv, e⟩ := rv_of w h
  rw [e] at h0 ⊢
  rw [← hv]
  exact itoa_dec v h0

/-- The two readers take the same texts, and read the same. -/
theorem same7 (s : List UInt8) (ws : List ByteArray) (hs : IsSplit s (ws.map fun w => w.data.toList)) (hne : ws ≠ []) :
    ((ws.map rdW).all p999 = true ∧ textL (ws.map rdW) = s ↔ ws.all (fun w => (rv w).2) = true ∧ (ws.map fun w => (rv w).1).all p999 = true) ∧
    (ws.all (fun w => (rv w).2) = true → (ws.map fun w => (rv w).1).all p999 = true → ws.map rdW = ws.map fun w => (rv w).1) := by
  have key : ws.all (fun w => (rv w).2) = true → (ws.map fun w => (rv w).1).all p999 = true → ws.map rdW = ws.map fun w => (rv w).1 := by
    intro h1 h2
    apply List.map_congr_left
    intro w hw
    have a := List.all_eq_true.1 h1 w hw
    have b := List.all_eq_true.1 h2 (rv w).1 (List.mem_map_of_mem hw)
    simp [p999] at b
    exact rdW_dec _ b.1 b.2 w (dec_of_rv w a b.1)
  refine ⟨⟨?_, ?_⟩, key⟩
  · rintro ⟨h1, h2⟩
    have e : ws.map (fun w => w.data.toList) = (ws.map rdW).map dec := by
      refine hs.uniq ?_
      rw [← h2]
      cases ws with
      | nil => exact absurd rfl hne
      | cons x r =>
        refine isSplit_text _ _ ?_
        intro y hy
        have := List.all_eq_true.1 h1 y hy
        simpa [p999] using this
    have each : ∀ w ∈ ws, rv w = (rdW w, true) := by
      intro w hw
      have hp := List.all_eq_true.1 h1 (rdW w) (List.mem_map_of_mem hw)
      simp [p999] at hp
      obtain ⟨i, hi, rfl⟩ := List.getElem_of_mem hw
      refine rv_dec _ _ hp.1 hp.2 ?_
      have := congrArg (fun l => l[i]?) e
      simpa [hi] using this
    refine ⟨List.all_eq_true.2 fun w hw => by rw [each w hw], ?_⟩
    rw [show (ws.map fun w => (rv w).1) = ws.map rdW from List.map_congr_left fun w hw => by rw [each w hw]]
    exact h1
  · rintro ⟨h1, h2⟩
    have e := key h1 h2
    rw [e]
    refine ⟨h2, ?_⟩
    refine (isSplit_fun hs ?_).symm
    have e2 : ws.map (fun w => w.data.toList) = (ws.map fun w => (rv w).1).map dec := by
      rw [List.map_map]
      apply List.map_congr_left
      intro w hw
      have a := List.all_eq_true.1 h1 w hw
      have b := List.all_eq_true.1 h2 (rv w).1 (List.mem_map_of_mem hw)
      simp [p999] at b
      exact dec_of_rv w a b.1
    rw [e2]
    cases ws with
    | nil => exact absurd rfl hne
    | cons x r =>
      refine isSplit_text _ _ ?_
      intro y hy
      have := List.all_eq_true.1 h2 y hy
      simpa [p999] using this
theorem text_short (l : List Int) (h : l.all p999 = true) : (textL l).length ≤ 4 * l.length := by
  have hd : ∀ x ∈ l, (dec x).length ≤ 3 := by
    intro x hx
    have := List.all_eq_true.1 h x hx
    simp [p999] at this
    exact dec_len' x.toNat 2 (by omega)
  cases l with
  | nil => simp [textL]
  | cons x r =>
    have hx := hd x List.mem_cons_self
    have : (r.flatMap fun y => 32 :: dec y).length ≤ 4 * r.length := by
      have hr : ∀ y ∈ r, (dec y).length ≤ 3 := fun y hy => hd y (List.mem_cons_of_mem _ hy)
      clear hd h hx
      induction r with
      | nil => simp
      | cons y r ih =>
        have := ih (fun z hz => hr z (List.mem_cons_of_mem _ hz))
        have := hr y List.mem_cons_self
        simp only [List.flatMap_cons, List.length_append, List.length_cons]
        omega
    simp only [textL, List.length_append, List.length_cons]
    omega
end Go.Proofs.YtjhaaaljlpcnaaaDoor.Y
