/- Two stores compared: what Go's '==' of two equal stores answers; and plain laws of frames: what is read at the front stays when more follows. -/
import Derived.Test.YtjhaaaljlpcnaaaDoorU6
import Derived.Test.YtjhaaaljlpcnaaaDoorWEqStruct
namespace Go.Proofs.YtjhaaaljlpcnaaaDoor.V
set_option linter.unusedVariables false
set_option linter.unusedSimpArgs false
open Go.RowKit Go.Proofs.YtjhaaaljlpcnaaaDoorW.PrintWords Go.Proofs.YtjhaaaljlpcnaaaDoor.S Go.Proofs.YtjhaaaljlpcnaaaDoor.U

theorem u31 : ∃ fs, Tryd.prog.underlying 31 = some (.struct fs) ∧ fs.toList.map (fun f => (f.name == "_", f.type, f.offset)) = [(false, 3, 0), (false, 9, 1), (false, 9, 2)] := ⟨_, Tryd.underlying31, by kernel_rfl⟩
theorem st31 : Tryd.prog.stoodInHeld 31 = false := by kernel_rfl

theorem equalIn_int (d : Nat) (x y : Int) (w : World) : (Op.equalIn (d + 1) 3 (.int .i64 x) (.int .i64 y)).run Tryd.prog w = .ok (x == y) w := by
  simp [Op.equalIn, run_underlying Tryd.underlying3]
theorem equalIn_str (d : Nat) (x y : ByteArray) (w : World) : (Op.equalIn (d + 1) 9 (.string x) (.string y)).run Tryd.prog w = .ok (x == y) w := by
  simp [Op.equalIn, run_underlying Tryd.underlying9]

theorem bbeq (x : ByteArray) : (x == x) = true := by
  first
    | exact beq_self_eq_true x
    | (show (x.data == x.data) = true; simp)
    | (cases x; simp [BEq.beq])
theorem eq31 (d : Nat) (r : Int) (a b : List UInt8) (w : World) : (Op.equalIn (d + 2) 31 (S.store r a b) (S.store r a b)).run Tryd.prog w = .ok true w := by
  obtain ⟨fs, hu, hf⟩ := u31
  refine eqA_of hu st31 ?_
  obtain ⟨l, hl⟩ : ∃ l, l = fs.toList := ⟨_, rfl⟩
  rw [← hl] at hf ⊢
  clear hl hu
  have h3 : l.length = 3 := by simpa using congrArg List.length hf
  match l, h3 with
  | [f0, f1, f2], _ =>
    simp only [List.map_cons, List.map_nil, List.cons.injEq, Prod.mk.injEq, and_true] at hf
    obtain ⟨⟨n0, t0, o0⟩, ⟨n1, t1, o1⟩, ⟨n2, t2, o2⟩⟩ := hf
    have h2 : (Op.eqFields (d + 1) #[Value.int .i64 r, .string ⟨a.toArray⟩, .string ⟨b.toArray⟩] #[Value.int .i64 r, .string ⟨a.toArray⟩, .string ⟨b.toArray⟩] [f0, f1, f2]).run Tryd.prog w = .ok (true && (true && true)) w := by
      refine eqf_cons (a := .int .i64 r) (b := .int .i64 r) n0 (by rw [t0, o0]; kernel_rfl) (by rw [t0, o0]; kernel_rfl) (by rw [t0, equalIn_int]; simp) ?_
      refine eqf_cons (a := .string ⟨a.toArray⟩) (b := .string ⟨a.toArray⟩) n1 (by rw [t1, o1]; kernel_rfl) (by rw [t1, o1]; kernel_rfl) (by rw [t1, equalIn_str, bbeq]) ?_
      exact eqf_last (a := .string ⟨b.toArray⟩) (b := .string ⟨b.toArray⟩) n2 (by rw [t2, o2]; kernel_rfl) (by rw [t2, o2]; kernel_rfl) (by rw [t2, equalIn_str, bbeq])
    simpa using h2

theorem neq_store (r : Int) (a b : List UInt8) (w : World) : (binOp .neq 31 (S.store r a b) (S.store r a b)).run Tryd.prog w = .ok (.bool false) w := by
  simp only [binOp]
  simp [Op.equal, Op.maxDepth, eq31 9998 r a b w]
theorem eql_store (r : Int) (a b : List UInt8) (w : World) : (binOp .eql 31 (S.store r a b) (S.store r a b)).run Tryd.prog w = .ok (.bool true) w := by
  simp only [binOp]
  simp [Op.equal, Op.maxDepth, eq31 9998 r a b w]

/-! Frames at the front stay where more follows. -/
theorem okL_more {no L : Nat} {s x : List UInt8} (h : okL no s L = true) : okL no (s ++ x) L = true := by
  simp only [okL, Bool.and_eq_true, decide_eq_true_eq, beq_iff_eq] at h ⊢
  obtain ⟨h1, h2⟩ := h
  have e1 : mid (s ++ x) L = mid s L := by
    unfold mid
    rw [List.drop_append_of_le_length (by omega), List.take_append_of_le_length (by simp; omega)]
  refine ⟨by simp; omega, ?_⟩
  rw [e1, h2, List.take_append_of_le_length (by omega)]
theorem takeP_more {no L : Nat} {s x : List UInt8} (h : takeP no s = some L) : takeP no (s ++ x) = some L := by
  have hL := (take_ok h).1
  exact takeP_yes hL (okL_more (List.find?_some h))
theorem mid_more {s x : List UInt8} {L : Nat} (h : L + 8 ≤ s.length) : mid (s ++ x) L = mid s L := by
  unfold mid
  rw [List.drop_append_of_le_length (by omega), List.take_append_of_le_length (by simp; omega)]

/-- What is read of a text is at the front of what is read of a longer one. -/
theorem readP_prefix : ∀ (k no : Nat) (s x : List UInt8), (readP k no s).1 <+: (readP k no (s ++ x)).1
  | 0, _, _, _ => by simp [readP]
  | k + 1, no, s, x => by
    cases h : takeP no s with
    | none => rw [readP_none h]; exact List.nil_prefix
    | some L =>
      have h2 := (take_ok h).2.1
      rw [readP, readP, h, takeP_more h]
      simp only [mid_more h2]
      rw [List.drop_append_of_le_length (by omega)]
      obtain ⟨t, ht⟩ := readP_prefix k (no + 1) (s.drop (8 + L)) x
      exact ⟨t, by rw [List.cons_append, ht]⟩

/-- What was read alone is read again, whole. -/
theorem readP_self : ∀ (k no : Nat) (s : List UInt8), readP k no (s.take (readP k no s).2) = readP k no s
  | 0, _, _ => by simp [readP]
  | k + 1, no, s => by
    cases h : takeP no s with
    | none =>
      rw [readP_none h]
      have : takeP no ([] : List UInt8) = none := find_none _ fun j hj => by simp [okL]
      simp [readP_none this]
    | some L =>
      obtain ⟨hL, h2, h3⟩ := take_ok h
      have ih := readP_self k (no + 1) (s.drop (8 + L))
      have e : (readP (k + 1) no s) = (⟨(mid s L).toArray⟩ :: (readP k (no + 1) (s.drop (8 + L))).1, 8 + L + (readP k (no + 1) (s.drop (8 + L))).2) := by rw [readP, h]
      obtain ⟨N, hN⟩ : ∃ N, N = (readP k (no + 1) (s.drop (8 + L))).2 := ⟨_, rfl⟩
      rw [e]
      simp only []
      rw [← hN]
      rw [← hN] at ih
      have hs : s.take (8 + L + N) = s.take (8 + L) ++ (s.drop (8 + L)).take N := by rw [List.take_add]
      have ht : takeP no (s.take (8 + L)) = some L := by
        refine takeP_yes hL ?_
        simp only [okL, Bool.and_eq_true, decide_eq_true_eq, beq_iff_eq]
        have hl : (s.take (8 + L)).length = 8 + L := by simp; omega
        have em : mid (s.take (8 + L)) L = mid s L := by
          unfold mid
          rw [List.drop_take, List.take_take]
          congr 1
          omega
        refine ⟨by omega, ?_⟩
        rw [em, h3, List.take_take, Nat.min_self]
      rw [hs, readP, takeP_more ht]
      simp only []
      have hl : (s.take (8 + L)).length = 8 + L := by simp; omega
      have em : mid (s.take (8 + L) ++ (s.drop (8 + L)).take N) L = mid s L := by
        rw [mid_more (by omega)]
        unfold mid
        rw [List.drop_take, List.take_take]
        congr 1
        omega
      rw [em, List.drop_left' hl, ih, ← hN]
end Go.Proofs.YtjhaaaljlpcnaaaDoor.V
