/- Stores: what MendStore, TextsIn, ReadFrames and FrameOf of both sides compute. Conditions: the strings have at most 1048576 bytes; the library's variables as the program lays them. -/
import Derived.Test.YtjhaaaljlpcnaaaDoorS8
namespace Go.Proofs.YtjhaaaljlpcnaaaDoor.S
set_option linter.unusedVariables false
set_option linter.unusedSimpArgs false
open Go.RowKit Go.Proofs.YtjhaaaljlpcnaaaDoorW.PrintWords Go.Proofs.YtjhaaaljlpcnaaaDoorW.PrintMore Go.Proofs.YtjhaaaljlpcnaaaDoor.X Go.Proofs.YtjhaaaljlpcnaaaDoor.A Go.Proofs.YtjhaaaljlpcnaaaDoor.Y

theorem ext_take (a : List UInt8) (K : Nat) : (⟨a.toArray⟩ : ByteArray).extract 0 K = ⟨(a.take K).toArray⟩ := by
  rw [ext_list]
  simp
theorem readP_le : ∀ k no (s : List UInt8), (readP k no s).2 ≤ s.length
  | 0, _, _ => by simp [readP]
  | k + 1, no, s => by
    rw [readP]
    cases h : takeP no s with
    | none => simp
    | some L =>
      have h1 := (take_ok h).2.1
      have h2 := readP_le k (no + 1) (s.drop (8 + L))
      simp at h2 ⊢
      omega
def mendB (r : Int) (a b : List UInt8) : Bool := good r a b && b.isEmpty
def mendV (r : Int) (a b : List UInt8) : Value := if mendB r a b then store r (a.take (readP 99 1 a).2) [] else store 0 [] []

theorem mendImpl (r : Int) (a b : List UInt8) (ha : a.length ≤ 1048576) (hb : b.length ≤ 1048576) (w : World) (hG : GL w) :
    Calls Tryd.prog 17 #[store r a b] w fun e w' => e = .returned (.tuple #[mendV r a b, .int .i64 (if mendB r a b then ((a.length - (readP 99 1 a).2 : Nat) : Int) else 0), .bool (mendB r a b)]) ∧ Below w.heap.size w w' := by
  have hR := isStore r a b ha hb
  have hF := fun W hW => readFrames a ha W hW
  have hle := readP_le 99 1 a
  obtain ⟨V, hV⟩ : ∃ V, V = mendV r a b := ⟨_, rfl⟩
  obtain ⟨C, hC⟩ : ∃ C, C = mendB r a b := ⟨_, rfl⟩
  rw [← hV, ← hC]
  unfold mendV at hV
  rw [← hC] at hV
  unfold mendB at hC
  obtain ⟨N, hN⟩ : ∃ N, N = (readP 99 1 a).2 := ⟨_, rfl⟩
  rw [← hN] at hF hV hle ⊢
  clear hN
  cases hg : good r a b with
  | false =>
    rw [hg] at hR hC
    simp at hC
    subst hC
    simp at hV
    subst hV
    clear hg hF
    go_enter Tryd.func17, Tryd.ntmps17
    go_wp2_with fail
    refine (hR _).mono ?_
    rintro e w1 ⟨rfl, hb1⟩
    obtain ⟨hk1, hk2, hB1, hz1⟩ := two hb1
    obtain ⟨c10, c11, c12, _, _, _⟩ := cells3 hk1
    obtain ⟨c20, c21, c22, f20, f21, f22⟩ := cells3 hk2
    have HB1 := Aside0.mk hB1
    have HK := Lib.hid hk2
    clear hk1 hk2 hB1 hb1 hz1
    go_wp2
    exact end_ctt rfl HK.out rfl ⟨rfl, below_set3 HB1.out (by omega) _ _ _⟩
  | true =>
    rw [hg] at hR hC
    cases hd : b.isEmpty with
    | false =>
      rw [hd] at hC
      simp at hC
      subst hC
      simp at hV
      subst hV
      clear hg hF
      go_enter Tryd.func17, Tryd.ntmps17
      go_wp2_with fail
      refine (hR _).mono ?_
      rintro e w1 ⟨rfl, hb1⟩
      obtain ⟨hk1, hk2, hB1, hz1⟩ := two hb1
      obtain ⟨c10, c11, c12, _, _, _⟩ := cells3 hk1
      obtain ⟨c20, c21, c22, f20, f21, f22⟩ := cells3 hk2
      have HB1 := Aside0.mk hB1
      have HK := Lib.hid hk2
      clear hk1 hk2 hB1 hb1 hz1
      go_wp2
      exact end_ctt rfl HK.out rfl ⟨rfl, below_set3 HB1.out (by omega) _ _ _⟩
    | true =>
      rw [hd] at hC
      simp at hC
      subst hC
      simp at hV
      subst hV
      obtain rfl : b = [] := by simpa using hd
      clear hg hd
      have n1 : (0 : Int) ≤ (N : Int) := by omega
      have n2 : (N : Int) ≤ (a.length : Int) := by omega
      have n3 : IntKind.i64.wrap ((a.length : Int) - (N : Int)) = (a.length : Int) - (N : Int) := IntWalk.i64_in _ (by omega)
      go_enter Tryd.func17, Tryd.ntmps17
      go_wp2_with fail
      refine (hR _).mono ?_
      rintro e w1 ⟨rfl, hb1⟩
      obtain ⟨hk1, hk2, hB1, hz1⟩ := two hb1
      obtain ⟨c10, c11, c12, _, _, _⟩ := cells3 hk1
      obtain ⟨c20, c21, c22, f20, f21, f22⟩ := cells3 hk2
      have HB1 := Aside0.mk hB1
      have HK := Lib.hid hk2
      clear hk1 hk2 hB1 hb1 hz1
      go_wp2_with fail
      refine (hF _ ((hG.below HB1.out))).mono ?_
      rintro e w2 ⟨v, rfl, hv, hb2⟩
      obtain ⟨hc2, hf2⟩ := bcell hb2
      have hz2 : w.heap.size + 1 < w1.heap.size := by have := World.block_lt_of_cell? w1 _ c20; simpa using this
      have hz3 : w.heap.size < w1.heap.size := by omega
      have HB2 := Aside0.mk (below_then HB1.out HB1.out.size hb2)
      have HK2 := Lib.hid (blk_below HK.out hb2)
      clear hb2 hv
      go_wp2_with fail
      go_region
      go_wp2
      refine end_ctt rfl (blk_drewN HK2.out _) rfl ⟨?_, below_set3 (pw_below_drewN HB2.out _) (by omega) _ _ _⟩
      rw [show ((a.length - N : Nat) : Int) = (a.length : Int) - N from by omega, ext_take]
      rfl

theorem mendSpec (r : Int) (a b : List UInt8) (ha : a.length ≤ 1048576) (hb : b.length ≤ 1048576) (w : World) :
    Calls Tryd.prog 23 #[store r a b] w fun e w' => e = .returned (.tuple #[mendV r a b, .int .i64 (if mendB r a b then ((a.length - (readP 99 1 a).2 : Nat) : Int) else 0), .bool (mendB r a b)]) ∧ Below w.heap.size w w' := by
  have hR := goodSpec r a b ha hb
  have hF := fun W => l17Read a ha W
  have hle := readP_le 99 1 a
  obtain ⟨V, hV⟩ : ∃ V, V = mendV r a b := ⟨_, rfl⟩
  obtain ⟨C, hC⟩ : ∃ C, C = mendB r a b := ⟨_, rfl⟩
  rw [← hV, ← hC]
  unfold mendV at hV
  rw [← hC] at hV
  unfold mendB at hC
  obtain ⟨N, hN⟩ : ∃ N, N = (readP 99 1 a).2 := ⟨_, rfl⟩
  rw [← hN] at hF hV hle ⊢
  clear hN
  cases hg : good r a b with
  | false =>
    rw [hg] at hR hC
    simp at hC
    subst hC
    simp at hV
    subst hV
    clear hg hF
    go_enter Tryd.func23, Tryd.ntmps23
    go_wp2_with fail
    refine (hR _).mono ?_
    rintro e w1 ⟨rfl, hb1⟩
    obtain ⟨hk1, hk2, hB1, hz1⟩ := two hb1
    obtain ⟨c10, c11, c12, _, _, _⟩ := cells3 hk1
    obtain ⟨c20, c21, c22, f20, f21, f22⟩ := cells3 hk2
    have HB1 := Aside0.mk hB1
    have HK := Lib.hid hk2
    clear hk1 hk2 hB1 hb1 hz1
    go_wp2
    exact end_ctt rfl HK.out rfl ⟨rfl, below_set3 HB1.out (by omega) _ _ _⟩
  | true =>
    rw [hg] at hR hC
    cases hd : b.isEmpty with
    | false =>
      rw [hd] at hC
      simp at hC
      subst hC
      simp at hV
      subst hV
      clear hg hF
      go_enter Tryd.func23, Tryd.ntmps23
      go_wp2_with fail
      refine (hR _).mono ?_
      rintro e w1 ⟨rfl, hb1⟩
      obtain ⟨hk1, hk2, hB1, hz1⟩ := two hb1
      obtain ⟨c10, c11, c12, _, _, _⟩ := cells3 hk1
      obtain ⟨c20, c21, c22, f20, f21, f22⟩ := cells3 hk2
      have HB1 := Aside0.mk hB1
      have HK := Lib.hid hk2
      clear hk1 hk2 hB1 hb1 hz1
      go_wp2
      exact end_ctt rfl HK.out rfl ⟨rfl, below_set3 HB1.out (by omega) _ _ _⟩
    | true =>
      rw [hd] at hC
      simp at hC
      subst hC
      simp at hV
      subst hV
      obtain rfl : b = [] := by simpa using hd
      clear hg hd
      have n1 : (0 : Int) ≤ (N : Int) := by omega
      have n2 : (N : Int) ≤ (a.length : Int) := by omega
      have n3 : IntKind.i64.wrap ((a.length : Int) - (N : Int)) = (a.length : Int) - (N : Int) := IntWalk.i64_in _ (by omega)
      go_enter Tryd.func23, Tryd.ntmps23
      go_wp2_with fail
      refine (hR _).mono ?_
      rintro e w1 ⟨rfl, hb1⟩
      obtain ⟨hk1, hk2, hB1, hz1⟩ := two hb1
      obtain ⟨c10, c11, c12, _, _, _⟩ := cells3 hk1
      obtain ⟨c20, c21, c22, f20, f21, f22⟩ := cells3 hk2
      have HB1 := Aside0.mk hB1
      have HK := Lib.hid hk2
      clear hk1 hk2 hB1 hb1 hz1
      go_wp2_with fail
      refine (hF _).mono ?_
      rintro e w2 ⟨v, rfl, hv, hb2⟩
      obtain ⟨hc2, hf2⟩ := bcell hb2
      have hz2 : w.heap.size + 1 < w1.heap.size := by have := World.block_lt_of_cell? w1 _ c20; simpa using this
      have hz3 : w.heap.size < w1.heap.size := by omega
      have HB2 := Aside0.mk (below_then HB1.out HB1.out.size hb2)
      have HK2 := Lib.hid (blk_below HK.out hb2)
      clear hb2 hv
      go_wp2_with fail
      go_region
      go_wp2
      refine end_ctt rfl (blk_drewN HK2.out _) rfl ⟨?_, below_set3 (pw_below_drewN HB2.out _) (by omega) _ _ _⟩
      rw [show ((a.length - N : Nat) : Int) = (a.length : Int) - N from by omega, ext_take]
      rfl

theorem textsImpl (r : Int) (a b : List UInt8) (ha : a.length ≤ 1048576) (hb : b.length ≤ 1048576) (hl : (a ++ b).length ≤ 1048576) (w : World) (hG : GL w) :
    Calls Tryd.prog 15 #[store r a b] w fun e w' => ∃ v, e = .returned (.tuple #[v, .bool (good r a b)]) ∧ Kd.R Kd.string 9 w' w.heap.size (fun _ => True) v (if good r a b then (readP 99 1 (a ++ b)).1 else []) ∧ Below w.heap.size w w' := by
  have hR := isStore r a b ha hb
  have hF := fun W hW => readFrames (a ++ b) hl W hW
  rw [← Y.mk_append] at hF
  have hl1 : a.length + b.length ≤ 1048576 := by simpa using hl
  cases hg : good r a b with
  | false =>
    rw [hg] at hR
    clear hg hF hl
    go_enter Tryd.func15, Tryd.ntmps15
    go_wp2_with fail
    refine (hR _).mono ?_
    rintro e w1 ⟨rfl, hb1⟩
    have hB1 : Below w.heap.size w w1 := below_then (below_alloc (Below.refl _ _) _) (by simp) hb1
    clear hb1
    go_wp2
    go_ret2
    exact ⟨_, rfl, Kd.R_nil _ _ _ _ _, hB1⟩
  | true =>
    rw [hg] at hR
    clear hg hl
    go_enter Tryd.func15, Tryd.ntmps15
    go_wp2_with fail
    refine (hR _).mono ?_
    rintro e w1 ⟨rfl, hb1⟩
    have hB1 : Below w.heap.size w w1 := below_then (below_alloc (Below.refl _ _) _) (by simp) hb1
    obtain ⟨c10, c11, c12, _, _, _⟩ := cells3 (blk_below (blk_new _ _) hb1)
    have HB1 := Aside0.mk hB1
    clear hb1 hB1
    go_wp2_with fail
    refine (hF _ (hG.below HB1.out)).mono ?_
    rintro e w2 ⟨v, rfl, hv, hb2⟩
    go_wp2
    go_ret2
    exact ⟨v, rfl, Kd.R_lower hv HB1.out.size, below_then HB1.out HB1.out.size hb2⟩

theorem textsSpec (r : Int) (a b : List UInt8) (ha : a.length ≤ 1048576) (hb : b.length ≤ 1048576) (hl : (a ++ b).length ≤ 1048576) (w : World) :
    Calls Tryd.prog 31 #[store r a b] w fun e w' => ∃ v, e = .returned (.tuple #[v, .bool (good r a b)]) ∧ Kd.R Kd.string 9 w' w.heap.size (fun _ => True) v (if good r a b then (readP 99 1 (a ++ b)).1 else []) ∧ Below w.heap.size w w' := by
  have hR := goodSpec r a b ha hb
  have hF := fun W => l17Read (a ++ b) hl W
  rw [← Y.mk_append] at hF
  have hl1 : a.length + b.length ≤ 1048576 := by simpa using hl
  cases hg : good r a b with
  | false =>
    rw [hg] at hR
    clear hg hF hl
    go_enter Tryd.func31, Tryd.ntmps31
    go_wp2_with fail
    refine (hR _).mono ?_
    rintro e w1 ⟨rfl, hb1⟩
    have hB1 : Below w.heap.size w w1 := below_then (below_alloc (Below.refl _ _) _) (by simp) hb1
    clear hb1
    go_wp2
    go_ret2
    exact ⟨_, rfl, Kd.R_nil _ _ _ _ _, hB1⟩
  | true =>
    rw [hg] at hR
    clear hg hl
    go_enter Tryd.func31, Tryd.ntmps31
    go_wp2_with fail
    refine (hR _).mono ?_
    rintro e w1 ⟨rfl, hb1⟩
    have hB1 : Below w.heap.size w w1 := below_then (below_alloc (Below.refl _ _) _) (by simp) hb1
    obtain ⟨c10, c11, c12, _, _, _⟩ := cells3 (blk_below (blk_new _ _) hb1)
    have HB1 := Aside0.mk hB1
    clear hb1 hB1
    go_wp2_with fail
    refine (hF _).mono ?_
    rintro e w2 ⟨v, rfl, hv, hb2⟩
    go_wp2
    go_ret2
    exact ⟨v, rfl, Kd.R_lower hv HB1.out.size, below_then HB1.out HB1.out.size hb2⟩

theorem readImpl (s : List UInt8) (hs : s.length ≤ 1048576) (w : World) (hG : GL w) :
    Calls Tryd.prog 16 #[.string ⟨s.toArray⟩] w fun e w' => ∃ v, e = .returned (.tuple #[v, .int .i64 (if s.length ≤ 4000 then ((readP 99 1 s).2 : Nat) else 0 : Nat), .bool (decide (s.length ≤ 4000))]) ∧ Kd.R Kd.string 9 w' w.heap.size (fun _ => True) v (if s.length ≤ 4000 then (readP 99 1 s).1 else []) ∧ Below w.heap.size w w' := by
  have hF := fun W hW => readFrames s hs W hW
  by_cases h : s.length ≤ 4000
  · have hd : decide (s.length ≤ 4000) = true := decide_eq_true h
    rw [hd, if_pos h, if_pos h]
    clear hd
    go_enter Tryd.func16, Tryd.ntmps16
    go_wp2_with fail
    refine (hF _ hG).mono ?_
    rintro e w2 ⟨v, rfl, hv, hb2⟩
    go_wp2
    go_ret3
    exact ⟨v, rfl, hv, hb2⟩
  · have hd : decide (s.length ≤ 4000) = false := decide_eq_false h
    rw [hd, if_neg h, if_neg h]
    clear hd
    go_enter Tryd.func16, Tryd.ntmps16
    go_wp2
    go_ret3
    exact ⟨_, rfl, Kd.R_nil _ _ _ _ _, Below.refl _ _⟩

theorem readSpec (s : List UInt8) (hs : s.length ≤ 1048576) (w : World) :
    Calls Tryd.prog 21 #[.string ⟨s.toArray⟩] w fun e w' => ∃ v, e = .returned (.tuple #[v, .int .i64 (if s.length ≤ 4000 then ((readP 99 1 s).2 : Nat) else 0 : Nat), .bool (decide (s.length ≤ 4000))]) ∧ Kd.R Kd.string 9 w' w.heap.size (fun _ => True) v (if s.length ≤ 4000 then (readP 99 1 s).1 else []) ∧ Below w.heap.size w w' := by
  have hF := fun W => l17Read s hs W
  by_cases h : s.length ≤ 4000
  · have hd : decide (s.length ≤ 4000) = true := decide_eq_true h
    rw [hd, if_pos h, if_pos h]
    clear hd
    go_enter Tryd.func21, Tryd.ntmps21
    go_wp2_with fail
    refine (hF _).mono ?_
    rintro e w2 ⟨v, rfl, hv, hb2⟩
    go_wp2
    go_ret3
    exact ⟨v, rfl, hv, hb2⟩
  · have hd : decide (s.length ≤ 4000) = false := decide_eq_false h
    rw [hd, if_neg h, if_neg h]
    clear hd
    go_enter Tryd.func21, Tryd.ntmps21
    go_wp2
    go_ret3
    exact ⟨_, rfl, Kd.R_nil _ _ _ _ _, Below.refl _ _⟩

def frofB (no : Int) (t : List UInt8) : Bool := decide (1 ≤ no ∧ no ≤ 99) && decide (t.length ≤ 60)
def frofV (no : Int) (t : List UInt8) : ByteArray := if frofB no t then ⟨(frameL no.toNat t).toArray⟩ else ⟨#[]⟩
theorem frofImpl (no : Int) (t : List UInt8) (w : World) (hG : GL w) (ht0 : t.length ≤ 1000) :
    Calls Tryd.prog 28 #[.int .i64 no, .string ⟨t.toArray⟩] w fun e w' => e = .returned (.tuple #[.string (frofV no t), .bool (frofB no t)]) ∧ Below w.heap.size w w' := by
  have hW := withinB no 1 99
  obtain ⟨V, hV⟩ : ∃ V, V = frofV no t := ⟨_, rfl⟩
  obtain ⟨C, hC⟩ : ∃ C, C = frofB no t := ⟨_, rfl⟩
  rw [← hV, ← hC]
  unfold frofV at hV
  rw [← hC] at hV
  unfold frofB at hC
  cases hd : decide (1 ≤ no ∧ no ≤ 99) with
  | false =>
    rw [hd] at hW hC
    simp at hC
    subst hC
    simp at hV
    subst hV
    clear hd
    go_enter Tryd.func28, Tryd.ntmps28
    go_wp2_with fail
    refine (hW _).mono ?_
    rintro e w2 ⟨rfl, hb2⟩
    go_wp2
    go_ret2
    exact ⟨rfl, hb2.below⟩
  | true =>
    rw [hd] at hW hC
    obtain ⟨h0, h1⟩ := of_decide_eq_true hd
    by_cases ht : t.length ≤ 60
    · simp [ht] at hC
      subst hC
      simp at hV
      subst hV
      have hF := fun W hW => frameOf no.toNat t (by omega) ht W hW
      rw [show ((no.toNat : Nat) : Int) = no from by omega] at hF
      obtain ⟨F, hFF⟩ : ∃ F, F = frameL no.toNat t := ⟨_, rfl⟩
      rw [← hFF] at hF ⊢
      clear hd hFF
      go_enter Tryd.func28, Tryd.ntmps28
      go_wp2_with fail
      refine (hW _).mono ?_
      rintro e w2 ⟨rfl, hb2⟩
      go_wp2_with fail
      refine (hF _ (hG.below hb2.below)).mono ?_
      rintro e w3 ⟨rfl, hb3⟩
      go_wp2
      go_ret2
      exact ⟨rfl, below_then hb2.below hb2.below.size hb3⟩
    · simp [ht] at hC
      subst hC
      simp at hV
      subst hV
      clear hd
      go_enter Tryd.func28, Tryd.ntmps28
      go_wp2_with fail
      refine (hW _).mono ?_
      rintro e w2 ⟨rfl, hb2⟩
      go_wp2
      go_ret2
      exact ⟨rfl, hb2.below⟩

theorem frofSpec (no : Int) (t : List UInt8) (w : World) (ht0 : t.length ≤ 1000) :
    Calls Tryd.prog 29 #[.int .i64 no, .string ⟨t.toArray⟩] w fun e w' => e = .returned (.tuple #[.string (frofV no t), .bool (frofB no t)]) ∧ Below w.heap.size w w' := by
  have hW := l1InB no 1 99
  obtain ⟨V, hV⟩ : ∃ V, V = frofV no t := ⟨_, rfl⟩
  obtain ⟨C, hC⟩ : ∃ C, C = frofB no t := ⟨_, rfl⟩
  rw [← hV, ← hC]
  unfold frofV at hV
  rw [← hC] at hV
  unfold frofB at hC
  cases hd : decide (1 ≤ no ∧ no ≤ 99) with
  | false =>
    rw [hd] at hW hC
    simp at hC
    subst hC
    simp at hV
    subst hV
    clear hd
    go_enter Tryd.func29, Tryd.ntmps29
    go_wp2_with fail
    refine (hW _).mono ?_
    rintro e w2 ⟨rfl, hb2⟩
    go_wp2
    go_ret2
    exact ⟨rfl, hb2.below⟩
  | true =>
    rw [hd] at hW hC
    obtain ⟨h0, h1⟩ := of_decide_eq_true hd
    by_cases ht : t.length ≤ 60
    · simp [ht] at hC
      subst hC
      simp at hV
      subst hV
      have hF := fun W => l17Frame no.toNat t (by omega) ht W
      rw [show ((no.toNat : Nat) : Int) = no from by omega] at hF
      obtain ⟨F, hFF⟩ : ∃ F, F = frameL no.toNat t := ⟨_, rfl⟩
      rw [← hFF] at hF ⊢
      clear hd hFF
      go_enter Tryd.func29, Tryd.ntmps29
      go_wp2_with fail
      refine (hW _).mono ?_
      rintro e w2 ⟨rfl, hb2⟩
      go_wp2_with fail
      refine (hF _).mono ?_
      rintro e w3 ⟨rfl, hb3⟩
      go_wp2
      go_ret2
      exact ⟨rfl, below_then hb2.below hb2.below.size hb3⟩
    · simp [ht] at hC
      subst hC
      simp at hV
      subst hV
      clear hd
      go_enter Tryd.func29, Tryd.ntmps29
      go_wp2_with fail
      refine (hW _).mono ?_
      rintro e w2 ⟨rfl, hb2⟩
      go_wp2
      go_ret2
      exact ⟨rfl, hb2.below⟩

end Go.Proofs.YtjhaaaljlpcnaaaDoor.S
