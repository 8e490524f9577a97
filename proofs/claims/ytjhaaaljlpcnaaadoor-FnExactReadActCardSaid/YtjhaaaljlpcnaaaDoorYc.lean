/- Walk of the reference's ReadAct: whatever the split gives; the library's variables are not read. -/
import Derived.Test.YtjhaaaljlpcnaaaDoorY
namespace Go.Proofs.YtjhaaaljlpcnaaaDoor.Y
open Go.RowKit Go.Proofs.YtjhaaaljlpcnaaaDoorW.PrintWords Go.Proofs.YtjhaaaljlpcnaaaDoorW.PrintMore Go.Proofs.YtjhaaaljlpcnaaaDoorW.PrintLast Go.Proofs.YtjhaaaljlpcnaaaDoor.X Go.Proofs.YtjhaaaljlpcnaaaDoor.A

theorem rdW_calls (s : ByteArray) (w : World) : Calls Tryd.prog 38 #[.string s] w fun e w' => e = .returned (.int .i64 (rdW s)) ∧ Drawn0 w w' := by
  obtain ⟨k, hk⟩ := rdW_f s
  exact spec_l1Read.calls k s _ w hk

theorem cellS {w W : World} {A : Option Addr} {n : Nat} {xs : List ByteArray} (hr : Kd.C Kd.string w A n xs) (hb : Below w.heap.size w W) (i : Nat) (hi : i < n) : ∃ ad, A = some ad ∧ W.cell? (ad.add i) = some (.string (xs.getD i ByteArray.empty)) := by
  obtain ⟨ad, e, hx⟩ := Kd.at_string hr (i : Int) (by omega) (by omega)
  exact ⟨ad, e, (hb.cell (World.block_lt_of_cell? w _ hx)).trans hx⟩

theorem specRead_long (k : Nat) (s : ByteArray) (ws : List ByteArray) (w : World) (hs : spec_l1Split.f k s 32 = some ws) (h60 : 60 < s.size) :
    Calls Tryd.prog 6 #[.string s] w fun e w' => e = .returned (.tuple #[agg7 0 0 0 0 0 0 0, .bool false]) ∧ Below w.heap.size w w' := by
  have h1 : decide (60 < s.size) = true := decide_eq_true h60
  have h2 : decide ((60 : Int) < (s.size : Int)) = true := decide_eq_true (by omega)
  clear h60
  go_enter Tryd.func6, Tryd.ntmps6
  go_wp2_with (first | (go_at_call 37; refine (spec_l1Split.calls k s 32 ws _ hs).mono ?_; rintro e w1 ⟨v1, rfl, hr1, hb1⟩; obtain ⟨hc1, hf1⟩ := bcell hb1; have hB1 : Below w.heap.size w w1 := below_then (below_alloc (Below.refl _ _) _) (by simp) hb1; have hz1 : w.heap.size < w1.heap.size := by (have := hb1.size; simp at this; omega)))
  refine bodyPost_ret (v := .tuple #[agg7 0 0 0 0 0 0 0, .bool false]) (by simp [results, Tryd.results6, go_sem, hc1]) rfl ⟨rfl, ?_⟩
  repeat refine Below.setCell ?_ (by simp) _
  exact hB1

theorem specRead_len (k : Nat) (s : ByteArray) (ws : List ByteArray) (w : World) (hs : spec_l1Split.f k s 32 = some ws) (h60 : s.size ≤ 60) (hl : ws.length ≠ 7) :
    Calls Tryd.prog 6 #[.string s] w fun e w' => e = .returned (.tuple #[agg7 0 0 0 0 0 0 0, .bool false]) ∧ Below w.heap.size w w' := by
  have h1 : decide (60 < s.size) = false := decide_eq_false (by omega)
  have h2 : decide ((60 : Int) < (s.size : Int)) = false := decide_eq_false (by omega)
  have h3 : ((ws.length : Int) != 7) = true := by simp; omega
  have h4 : ((ws.length : Int) == 7) = false := by simp; omega
  clear h60 hl
  go_enter Tryd.func6, Tryd.ntmps6
  go_wp2_with (first | (go_at_call 37; refine (spec_l1Split.calls k s 32 ws _ hs).mono ?_; rintro e w1 ⟨v1, rfl, hr1, hb1⟩; obtain ⟨hc1, hf1⟩ := bcell hb1; obtain ⟨A1, c1, rfl, hl1, hC1⟩ := Kd.R_reads hr1; have hB1 : Below w.heap.size w w1 := below_then (below_alloc (Below.refl _ _) _) (by simp) hb1; have hz1 : w.heap.size < w1.heap.size := by (have := hb1.size; simp at this; omega)))
  refine bodyPost_ret (v := .tuple #[agg7 0 0 0 0 0 0 0, .bool false]) (by simp [results, Tryd.results6, go_sem, hc1]) rfl ⟨rfl, ?_⟩
  repeat refine Below.setCell ?_ (by simp) _
  exact hB1

def raT10 : Bool × List (List Nat × List Nat) := (true, [([], []), ([0], [0]), ([1], [1]), ([], []), ([3], [3]), ([4], [4]), ([], []), ([6], [6]), ([7], [7]), ([], []), ([9], [9]), ([10], [10]), ([], []), ([12], [12]), ([13], [13]), ([], []), ([15], [15]), ([16], [16]), ([], []), ([18], [18]), ([19], [19]), ([2, 5, 8, 11, 14, 17, 20], [2, 5, 8, 11, 14, 17, 20]), ([], []), ([22, 21, 0, 1, 2, 3, 4, 5, 6, 7, 8, 9, 10, 11, 12, 13, 14, 15, 16, 17, 18, 19, 20, 21, 22], [21, 22])])
def raB10 : List Nat := [0, 1, 3, 0, 8, 24, 0, 64, 192, 0, 512, 1536, 0, 4096, 12288, 0, 32768, 98304, 0, 262144, 786432, 2097151, 0, 8388607]
theorem ratab10 : rtab .any (opsOf Tryd.f6 10) = raT10 := by kernel_rfl
theorem rabits10 : waitsOk raT10.2 raB10 = true := by kernel_rfl

set_option maxHeartbeats 4000000 in
set_option maxRecDepth 100000 in
theorem specRead7 (k : Nat) (s s0 s1 s2 s3 s4 s5 s6 : ByteArray) (w : World) (hs : spec_l1Split.f k s 32 = some [s0, s1, s2, s3, s4, s5, s6]) (h60 : s.size ≤ 60) (m0 m1 m2 m3 m4 m5 m6 : Int) (hm : [rdW s0, rdW s1, rdW s2, rdW s3, rdW s4, rdW s5, rdW s6] = [m0, m1, m2, m3, m4, m5, m6])
    (a0 a1 a2 a3 a4 a5 a6 : Int) (r : Bool) (h : (ok7 m0 m1 m2 m3 m4 m5 m6 = false ∨ ok7 m0 m1 m2 m3 m4 m5 m6 = true ∧ textL [m0, m1, m2, m3, m4, m5, m6] ≠ s.data.toList) ∧ [a0, a1, a2, a3, a4, a5, a6] = [0, 0, 0, 0, 0, 0, 0] ∧ r = false ∨ ok7 m0 m1 m2 m3 m4 m5 m6 = true ∧ textL [m0, m1, m2, m3, m4, m5, m6] = s.data.toList ∧ [a0, a1, a2, a3, a4, a5, a6] = [m0, m1, m2, m3, m4, m5, m6] ∧ r = true) :
    Calls Tryd.prog 6 #[.string s] w fun e w' => e = .returned (.tuple #[agg7 a0 a1 a2 a3 a4 a5 a6, .bool r]) ∧ Below w.heap.size w w' := by
  have h1 : decide (60 < s.size) = false := decide_eq_false (by omega)
  have h2 : decide ((60 : Int) < (s.size : Int)) = false := decide_eq_false (by omega)
  clear h60
  have HM := Aside0.mk hm
  have HH := Aside0.mk h
  clear hm h
  obtain ⟨ws, hws⟩ : ∃ ws, ws = [s0, s1, s2, s3, s4, s5, s6] := ⟨_, rfl⟩
  rw [← hws] at hs
  have hl7 : ws.length = 7 := by rw [hws]; rfl
  have h3 : ((ws.length : Int) != 7) = false := by simp; omega
  have h4 : ((ws.length : Int) == 7) = true := by simp; omega
  have HW := Aside0.mk hws
  have HL := Aside0.mk hl7
  have hle : ws.length ≤ 7 := by omega
  clear hws hl7
  go_enter Tryd.func6, Tryd.ntmps6
  go_wp2_with (first | (go_at_call 37; refine (spec_l1Split.calls k s 32 ws _ hs).mono ?_; rintro e w1 ⟨v1, rfl, hr1, hb1⟩; obtain ⟨hc1, hf1⟩ := bcell hb1; obtain ⟨A1, c1, rfl, hl1, hC1⟩ := Kd.R_reads hr1; have hB1 : Below w.heap.size w w1 := below_then (below_alloc (Below.refl _ _) _) (by simp) hb1; have hz1 : w.heap.size < w1.heap.size := by (have := hb1.size; simp at this; omega)))
  have HB1 := Aside0.mk hB1
  have HC1 := Aside0.mk hC1
  clear hr1 hb1 hB1 hC1
  go_loopg [5, 24] ws.length (fun gk v5 v24 W => ∃ i : Nat, Aside0 (i ≤ ws.length ∧ gk = ws.length - i) ∧ v24 = .int .i64 i ∧ Aside0 (Kd.R (Kd.int .i64) 3 W w1.heap.size (fun _ => True) v5 ((ws.take i).map rdW)) ∧ Aside0 (Below w1.heap.size w1 W))
  case atStart => exact ⟨0, ⟨by omega⟩, rfl, ⟨Kd.R_nil _ _ _ _ _⟩, ⟨Below.refl _ _⟩⟩
  case round =>
    obtain ⟨i, HI, rfl, HO, HB⟩ := hrel
    have hi := HI.out
    by_cases hlt : i < ws.length
    · obtain ⟨ad, e, hx⟩ := cellS HC1.out HB.out i hlt
      cases e
      obtain ⟨y, hy⟩ : ∃ y, y = ws.getD i ByteArray.empty := ⟨_, rfl⟩
      rw [← hy] at hx
      have HY := Aside0.mk hy
      clear hi hy
      go_wp2_with (first | (go_at_call 38; refine (rdW_calls y _).mono ?_; rintro e w2 ⟨rfl, ⟨nd, rfl⟩⟩) | ((with_reducible refine gate_builtin (b := .append) (xs := #[.tmp 28, .tmp 31]) rfl ?_); at_builtin; refine Kd.R_append (Kd.int .i64) (w0 := w1) w1.heap.size rfl (.tmp 28) (.tmp 31) 58 3 (.int .i64 0) 8 rfl Tryd.underlying58 info3 rfl (by decide) (by omega) u5 ((ws.take i).map rdW) (rdW y) [.int .i64 (rdW y)] (fun _ => True) (fun _ => False) rfl rfl ?aP (fun _ hk => hk.elim) ?aF ?aO ?aB ?aS ?aL ?_; (case aP => exact rfl); (case aB => exact pw_below_drewN HB.out _); (case aF => exact fun _ _ => trivial); (case aO => exact Kd.R_drewN HO.out _); (case aS => exact HB.out.size); (case aL => (have := HL.out; have := HI.out; simp; omega)); intro v3 w3 ho hb3 hg3 hat3))
      go_roundg (ws.length - (i + 1))
      case measure => have := HI.out; omega
      case rel =>
        refine ⟨i + 1, ⟨by omega, rfl⟩, by go_num, ⟨?_⟩, ⟨hb3⟩⟩
        have e : (ws.take (i + 1)).map rdW = (ws.take i).map rdW ++ [rdW y] := by
          rw [List.take_succ_eq_append_getElem hlt, List.map_append, HY.out]
          simp [hlt]
        rw [e]
        exact ho
    · have he : i = ws.length := by omega
      subst he
      have HO' : Kd.R (Kd.int .i64) 3 wr w1.heap.size (fun _ => True) u5 [m0, m1, m2, m3, m4, m5, m6] := by
        have h := HO.out
        rw [List.take_length, HW.out] at h
        rw [← HM.out]
        exact h
      clear HO hi hlt
      obtain ⟨g, cg, rfl, _, _, hx0, hx1, hx2, hx3, hx4, hx5, hx6⟩ := cells7 HO'
      obtain ⟨hc2, hf2⟩ := bcell HB.out
      go_wp2
      obtain ⟨W3, hW3⟩ : ∃ W, W = wr.drew := ⟨_, rfl⟩
      obtain ⟨y0, y1, y2, y3, y4, y5, y6, hc3, hf3, hB3⟩ : W3.cell? ⟨g, 0, none⟩ = some (.int .i64 m0) ∧ W3.cell? ⟨g, 1, none⟩ = some (.int .i64 m1) ∧ W3.cell? ⟨g, 2, none⟩ = some (.int .i64 m2) ∧ W3.cell? ⟨g, 3, none⟩ = some (.int .i64 m3) ∧ W3.cell? ⟨g, 4, none⟩ = some (.int .i64 m4) ∧ W3.cell? ⟨g, 5, none⟩ = some (.int .i64 m5) ∧ W3.cell? ⟨g, 6, none⟩ = some (.int .i64 m6) ∧ (∀ b o, b < w1.heap.size → W3.cell? ⟨b, o, none⟩ = w1.cell? ⟨b, o, none⟩) ∧ (∀ b o, b < w1.heap.size → W3.frozen? ⟨b, o, none⟩ = w1.frozen? ⟨b, o, none⟩) ∧ Below w1.heap.size w1 W3 := by
        subst hW3
        exact ⟨hx0, hx1, hx2, hx3, hx4, hx5, hx6, hc2, hf2, HB.out.drew⟩
      have HB3 := Aside0.mk hB3
      have hz3 : w.heap.size < W3.heap.size := Nat.lt_of_lt_of_le hz1 hB3.size
      clear hx0 hx1 hx2 hx3 hx4 hx5 hx6 hB3
      have hHS : (fun w' : World => w'.cell? ⟨g, 0, none⟩ = some (.int .i64 m0) ∧ w'.cell? ⟨g, 1, none⟩ = some (.int .i64 m1) ∧ w'.cell? ⟨g, 2, none⟩ = some (.int .i64 m2) ∧ w'.cell? ⟨g, 3, none⟩ = some (.int .i64 m3) ∧ w'.cell? ⟨g, 4, none⟩ = some (.int .i64 m4) ∧ w'.cell? ⟨g, 5, none⟩ = some (.int .i64 m5) ∧ w'.cell? ⟨g, 6, none⟩ = some (.int .i64 m6)) W3 := ⟨y0, y1, y2, y3, y4, y5, y6⟩
      have hg1 : g < W3.heap.size := by
        have := World.block_lt_of_cell? W3 _ y0
        exact this
      refine start_ (n := 24) (S := fun w' => w'.cell? ⟨g, 0, none⟩ = some (.int .i64 m0) ∧ w'.cell? ⟨g, 1, none⟩ = some (.int .i64 m1) ∧ w'.cell? ⟨g, 2, none⟩ = some (.int .i64 m2) ∧ w'.cell? ⟨g, 3, none⟩ = some (.int .i64 m3) ∧ w'.cell? ⟨g, 4, none⟩ = some (.int .i64 m4) ∧ w'.cell? ⟨g, 5, none⟩ = some (.int .i64 m5) ∧ w'.cell? ⟨g, 6, none⟩ = some (.int .i64 m6)) (ds := []) #[false, false, false, false, false, false, false, false, false, false, false, false, false, false, false, false, false, false, false, false, false, false, false, false] (by kernel_rfl) rfl rfl (by rw [← hW3]; exact hHS) (fun hHeld => ?_)
      refine with_tabW ratab10 rabits10 (fun HT_ HW_ => ?_)
      rw [← hW3] at hHeld ⊢
      clear hW3
      refine pure_ (i := 0) (N := (some 34)) (v := ?_) (a' := ?_) #[true, false, false, false, false, false, false, false, false, false, false, false, false, false, false, false, false, false, false, false, false, false, false, false] rfl rfl (any_of HT_.out (by kernel_rfl)) (fun _ _ _ h => h) (Or.inl ⟨by rfl, ?_⟩) ?_ ?_
      rotate_left
      · intro w'
        go_simp
        with_reducible rfl
      rotate_left
      · simp only [Act.put, List.setIfInBounds_toArray, List.set_cons_zero, List.set_cons_succ, i64_w, i32_w]
        rfl
      refine pure_ (i := 1) (N := (some 35)) (v := ?_) (a' := ?_) #[true, true, false, false, false, false, false, false, false, false, false, false, false, false, false, false, false, false, false, false, false, false, false, false] rfl rfl (any_of HT_.out (by kernel_rfl)) (fun _ _ _ h => h) (Or.inl ⟨by rfl, ?_⟩) ?_ ?_
      rotate_left
      · intro w'
        go_simp
        with_reducible rfl
      rotate_left
      · simp only [Act.put, List.setIfInBounds_toArray, List.set_cons_zero, List.set_cons_succ, i64_w, i32_w]
        rfl
      refine pure_ (i := 3) (N := (some 37)) (v := ?_) (a' := ?_) #[true, true, false, true, false, false, false, false, false, false, false, false, false, false, false, false, false, false, false, false, false, false, false, false] rfl rfl (any_of HT_.out (by kernel_rfl)) (fun _ _ _ h => h) (Or.inl ⟨by rfl, ?_⟩) ?_ ?_
      rotate_left
      · intro w'
        go_simp
        with_reducible rfl
      rotate_left
      · simp only [Act.put, List.setIfInBounds_toArray, List.set_cons_zero, List.set_cons_succ, i64_w, i32_w]
        rfl
      refine pure_ (i := 4) (N := (some 38)) (v := ?_) (a' := ?_) #[true, true, false, true, true, false, false, false, false, false, false, false, false, false, false, false, false, false, false, false, false, false, false, false] rfl rfl (any_of HT_.out (by kernel_rfl)) (fun _ _ _ h => h) (Or.inl ⟨by rfl, ?_⟩) ?_ ?_
      rotate_left
      · intro w'
        go_simp
        with_reducible rfl
      rotate_left
      · simp only [Act.put, List.setIfInBounds_toArray, List.set_cons_zero, List.set_cons_succ, i64_w, i32_w]
        rfl
      refine pure_ (i := 6) (N := (some 40)) (v := ?_) (a' := ?_) #[true, true, false, true, true, false, true, false, false, false, false, false, false, false, false, false, false, false, false, false, false, false, false, false] rfl rfl (any_of HT_.out (by kernel_rfl)) (fun _ _ _ h => h) (Or.inl ⟨by rfl, ?_⟩) ?_ ?_
      rotate_left
      · intro w'
        go_simp
        with_reducible rfl
      rotate_left
      · simp only [Act.put, List.setIfInBounds_toArray, List.set_cons_zero, List.set_cons_succ, i64_w, i32_w]
        rfl
      refine pure_ (i := 7) (N := (some 41)) (v := ?_) (a' := ?_) #[true, true, false, true, true, false, true, true, false, false, false, false, false, false, false, false, false, false, false, false, false, false, false, false] rfl rfl (any_of HT_.out (by kernel_rfl)) (fun _ _ _ h => h) (Or.inl ⟨by rfl, ?_⟩) ?_ ?_
      rotate_left
      · intro w'
        go_simp
        with_reducible rfl
      rotate_left
      · simp only [Act.put, List.setIfInBounds_toArray, List.set_cons_zero, List.set_cons_succ, i64_w, i32_w]
        rfl
      refine pure_ (i := 9) (N := (some 43)) (v := ?_) (a' := ?_) #[true, true, false, true, true, false, true, true, false, true, false, false, false, false, false, false, false, false, false, false, false, false, false, false] rfl rfl (any_of HT_.out (by kernel_rfl)) (fun _ _ _ h => h) (Or.inl ⟨by rfl, ?_⟩) ?_ ?_
      rotate_left
      · intro w'
        go_simp
        with_reducible rfl
      rotate_left
      · simp only [Act.put, List.setIfInBounds_toArray, List.set_cons_zero, List.set_cons_succ, i64_w, i32_w]
        rfl
      refine pure_ (i := 10) (N := (some 44)) (v := ?_) (a' := ?_) #[true, true, false, true, true, false, true, true, false, true, true, false, false, false, false, false, false, false, false, false, false, false, false, false] rfl rfl (any_of HT_.out (by kernel_rfl)) (fun _ _ _ h => h) (Or.inl ⟨by rfl, ?_⟩) ?_ ?_
      rotate_left
      · intro w'
        go_simp
        with_reducible rfl
      rotate_left
      · simp only [Act.put, List.setIfInBounds_toArray, List.set_cons_zero, List.set_cons_succ, i64_w, i32_w]
        rfl
      refine pure_ (i := 12) (N := (some 46)) (v := ?_) (a' := ?_) #[true, true, false, true, true, false, true, true, false, true, true, false, true, false, false, false, false, false, false, false, false, false, false, false] rfl rfl (any_of HT_.out (by kernel_rfl)) (fun _ _ _ h => h) (Or.inl ⟨by rfl, ?_⟩) ?_ ?_
      rotate_left
      · intro w'
        go_simp
        with_reducible rfl
      rotate_left
      · simp only [Act.put, List.setIfInBounds_toArray, List.set_cons_zero, List.set_cons_succ, i64_w, i32_w]
        rfl
      refine pure_ (i := 13) (N := (some 47)) (v := ?_) (a' := ?_) #[true, true, false, true, true, false, true, true, false, true, true, false, true, true, false, false, false, false, false, false, false, false, false, false] rfl rfl (any_of HT_.out (by kernel_rfl)) (fun _ _ _ h => h) (Or.inl ⟨by rfl, ?_⟩) ?_ ?_
      rotate_left
      · intro w'
        go_simp
        with_reducible rfl
      rotate_left
      · simp only [Act.put, List.setIfInBounds_toArray, List.set_cons_zero, List.set_cons_succ, i64_w, i32_w]
        rfl
      refine pure_ (i := 15) (N := (some 49)) (v := ?_) (a' := ?_) #[true, true, false, true, true, false, true, true, false, true, true, false, true, true, false, true, false, false, false, false, false, false, false, false] rfl rfl (any_of HT_.out (by kernel_rfl)) (fun _ _ _ h => h) (Or.inl ⟨by rfl, ?_⟩) ?_ ?_
      rotate_left
      · intro w'
        go_simp
        with_reducible rfl
      rotate_left
      · simp only [Act.put, List.setIfInBounds_toArray, List.set_cons_zero, List.set_cons_succ, i64_w, i32_w]
        rfl
      refine pure_ (i := 16) (N := (some 50)) (v := ?_) (a' := ?_) #[true, true, false, true, true, false, true, true, false, true, true, false, true, true, false, true, true, false, false, false, false, false, false, false] rfl rfl (any_of HT_.out (by kernel_rfl)) (fun _ _ _ h => h) (Or.inl ⟨by rfl, ?_⟩) ?_ ?_
      rotate_left
      · intro w'
        go_simp
        with_reducible rfl
      rotate_left
      · simp only [Act.put, List.setIfInBounds_toArray, List.set_cons_zero, List.set_cons_succ, i64_w, i32_w]
        rfl
      refine pure_ (i := 18) (N := (some 52)) (v := ?_) (a' := ?_) #[true, true, false, true, true, false, true, true, false, true, true, false, true, true, false, true, true, false, true, false, false, false, false, false] rfl rfl (any_of HT_.out (by kernel_rfl)) (fun _ _ _ h => h) (Or.inl ⟨by rfl, ?_⟩) ?_ ?_
      rotate_left
      · intro w'
        go_simp
        with_reducible rfl
      rotate_left
      · simp only [Act.put, List.setIfInBounds_toArray, List.set_cons_zero, List.set_cons_succ, i64_w, i32_w]
        rfl
      refine pure_ (i := 19) (N := (some 53)) (v := ?_) (a' := ?_) #[true, true, false, true, true, false, true, true, false, true, true, false, true, true, false, true, true, false, true, true, false, false, false, false] rfl rfl (any_of HT_.out (by kernel_rfl)) (fun _ _ _ h => h) (Or.inl ⟨by rfl, ?_⟩) ?_ ?_
      rotate_left
      · intro w'
        go_simp
        with_reducible rfl
      rotate_left
      · simp only [Act.put, List.setIfInBounds_toArray, List.set_cons_zero, List.set_cons_succ, i64_w, i32_w]
        rfl
      refine take_ (i := 2) (N := (some 36)) (v := ?_) (a' := ?_) #[true, true, true, true, true, false, true, true, false, true, true, false, true, true, false, true, true, false, true, true, false, false, false, false] rfl rfl (take_ofW HT_.out HW_.out (by kernel_rfl)) (fun _ _ _ h => h) (Or.inl ⟨by rfl, ?_⟩) hHeld ?_ ?_
      rotate_left
      · rintro w' ⟨q0, q1, q2, q3, q4, q5, q6⟩
        go_simp
        with_reducible rfl
      rotate_left
      · simp only [Act.put, List.setIfInBounds_toArray, List.set_cons_zero, List.set_cons_succ, i64_w, i32_w]
        rfl
      refine take_ (i := 5) (N := (some 39)) (v := ?_) (a' := ?_) #[true, true, true, true, true, true, true, true, false, true, true, false, true, true, false, true, true, false, true, true, false, false, false, false] rfl rfl (take_ofW HT_.out HW_.out (by kernel_rfl)) (fun _ _ _ h => h) (Or.inl ⟨by rfl, ?_⟩) hHeld ?_ ?_
      rotate_left
      · rintro w' ⟨q0, q1, q2, q3, q4, q5, q6⟩
        go_simp
        with_reducible rfl
      rotate_left
      · simp only [Act.put, List.setIfInBounds_toArray, List.set_cons_zero, List.set_cons_succ, i64_w, i32_w]
        rfl
      refine take_ (i := 8) (N := (some 42)) (v := ?_) (a' := ?_) #[true, true, true, true, true, true, true, true, true, true, true, false, true, true, false, true, true, false, true, true, false, false, false, false] rfl rfl (take_ofW HT_.out HW_.out (by kernel_rfl)) (fun _ _ _ h => h) (Or.inl ⟨by rfl, ?_⟩) hHeld ?_ ?_
      rotate_left
      · rintro w' ⟨q0, q1, q2, q3, q4, q5, q6⟩
        go_simp
        with_reducible rfl
      rotate_left
      · simp only [Act.put, List.setIfInBounds_toArray, List.set_cons_zero, List.set_cons_succ, i64_w, i32_w]
        rfl
      refine take_ (i := 11) (N := (some 45)) (v := ?_) (a' := ?_) #[true, true, true, true, true, true, true, true, true, true, true, true, true, true, false, true, true, false, true, true, false, false, false, false] rfl rfl (take_ofW HT_.out HW_.out (by kernel_rfl)) (fun _ _ _ h => h) (Or.inl ⟨by rfl, ?_⟩) hHeld ?_ ?_
      rotate_left
      · rintro w' ⟨q0, q1, q2, q3, q4, q5, q6⟩
        go_simp
        with_reducible rfl
      rotate_left
      · simp only [Act.put, List.setIfInBounds_toArray, List.set_cons_zero, List.set_cons_succ, i64_w, i32_w]
        rfl
      refine take_ (i := 14) (N := (some 48)) (v := ?_) (a' := ?_) #[true, true, true, true, true, true, true, true, true, true, true, true, true, true, true, true, true, false, true, true, false, false, false, false] rfl rfl (take_ofW HT_.out HW_.out (by kernel_rfl)) (fun _ _ _ h => h) (Or.inl ⟨by rfl, ?_⟩) hHeld ?_ ?_
      rotate_left
      · rintro w' ⟨q0, q1, q2, q3, q4, q5, q6⟩
        go_simp
        with_reducible rfl
      rotate_left
      · simp only [Act.put, List.setIfInBounds_toArray, List.set_cons_zero, List.set_cons_succ, i64_w, i32_w]
        rfl
      refine take_ (i := 17) (N := (some 51)) (v := ?_) (a' := ?_) #[true, true, true, true, true, true, true, true, true, true, true, true, true, true, true, true, true, true, true, true, false, false, false, false] rfl rfl (take_ofW HT_.out HW_.out (by kernel_rfl)) (fun _ _ _ h => h) (Or.inl ⟨by rfl, ?_⟩) hHeld ?_ ?_
      rotate_left
      · rintro w' ⟨q0, q1, q2, q3, q4, q5, q6⟩
        go_simp
        with_reducible rfl
      rotate_left
      · simp only [Act.put, List.setIfInBounds_toArray, List.set_cons_zero, List.set_cons_succ, i64_w, i32_w]
        rfl
      refine take_ (i := 20) (N := (some 54)) (v := ?_) (a' := ?_) #[true, true, true, true, true, true, true, true, true, true, true, true, true, true, true, true, true, true, true, true, true, false, false, false] rfl rfl (take_ofW HT_.out HW_.out (by kernel_rfl)) (fun _ _ _ h => h) (Or.inl ⟨by rfl, ?_⟩) hHeld ?_ ?_
      rotate_left
      · rintro w' ⟨q0, q1, q2, q3, q4, q5, q6⟩
        go_simp
        with_reducible rfl
      rotate_left
      · simp only [Act.put, List.setIfInBounds_toArray, List.set_cons_zero, List.set_cons_succ, i64_w, i32_w]
        rfl
      refine pure_ (i := 21) (N := (some 55)) (v := ?_) (a' := ?_) #[true, true, true, true, true, true, true, true, true, true, true, true, true, true, true, true, true, true, true, true, true, true, false, false] rfl rfl (any_of HT_.out (by kernel_rfl)) (fun _ _ _ h => h) (Or.inl ⟨by rfl, ?_⟩) ?_ ?_
      rotate_left
      · intro w'
        go_simp
        with_reducible rfl
      rotate_left
      · simp only [Act.put, List.setIfInBounds_toArray, List.set_cons_zero, List.set_cons_succ, i64_w, i32_w]
        rfl
      refine one_ (i := 22) (N := some 8) #[true, true, true, true, true, true, true, true, true, true, true, true, true, true, true, true, true, true, true, true, true, true, true, false] rfl rfl (one_of HT_.out (by kernel_rfl)) (by decide) (fun K hK => ?_)
      refine box_step ?hg (N := 8) ?hd (cs := #[.int .i64 0, .int .i64 0, .int .i64 0, .int .i64 0, .int .i64 0, .int .i64 0, .int .i64 0]) (t := 23) ?hr ?_; (case hd => rfl); (case hg => rfl); (case hr => first | (go_simp; done) | (go_simp; rfl))
      intro gb hg w4 hbox hb
      have hB4 := Aside0.mk (below_then HB3.out HB3.out.size hb)
      have hlt4 : g ≠ gb := by omega
      have hgt4 : w.heap.size ≠ gb := by omega
      have hge4 : w.heap.size < gb := by omega
      have hge1 : w1.heap.size ≤ gb := by rw [hg]; exact HB3.out.size
      have hgw4 : gb < w4.heap.size := blk_lt hbox
      obtain ⟨z0, z1, z2, z3, z4, z5, z6⟩ : w4.cell? ⟨g, 0, none⟩ = some (.int .i64 m0) ∧ w4.cell? ⟨g, 1, none⟩ = some (.int .i64 m1) ∧ w4.cell? ⟨g, 2, none⟩ = some (.int .i64 m2) ∧ w4.cell? ⟨g, 3, none⟩ = some (.int .i64 m3) ∧ w4.cell? ⟨g, 4, none⟩ = some (.int .i64 m4) ∧ w4.cell? ⟨g, 5, none⟩ = some (.int .i64 m5) ∧ w4.cell? ⟨g, 6, none⟩ = some (.int .i64 m6) := ⟨(hb.cell (World.block_lt_of_cell? _ _ y0)).trans y0, (hb.cell (World.block_lt_of_cell? _ _ y1)).trans y1, (hb.cell (World.block_lt_of_cell? _ _ y2)).trans y2, (hb.cell (World.block_lt_of_cell? _ _ y3)).trans y3, (hb.cell (World.block_lt_of_cell? _ _ y4)).trans y4, (hb.cell (World.block_lt_of_cell? _ _ y5)).trans y5, (hb.cell (World.block_lt_of_cell? _ _ y6)).trans y6⟩
      obtain ⟨hc4, hf4⟩ := bcell hB4.out
      have hcb0 : w4.cell? ⟨gb, 0, none⟩ = some (.int .i64 0) := (blk_cell hbox 0).trans rfl
      have hfb0 := blk_frozen hbox 0
      have hcb1 : w4.cell? ⟨gb, 1, none⟩ = some (.int .i64 0) := (blk_cell hbox 1).trans rfl
      have hfb1 := blk_frozen hbox 1
      have hcb2 : w4.cell? ⟨gb, 2, none⟩ = some (.int .i64 0) := (blk_cell hbox 2).trans rfl
      have hfb2 := blk_frozen hbox 2
      have hcb3 : w4.cell? ⟨gb, 3, none⟩ = some (.int .i64 0) := (blk_cell hbox 3).trans rfl
      have hfb3 := blk_frozen hbox 3
      have hcb4 : w4.cell? ⟨gb, 4, none⟩ = some (.int .i64 0) := (blk_cell hbox 4).trans rfl
      have hfb4 := blk_frozen hbox 4
      have hcb5 : w4.cell? ⟨gb, 5, none⟩ = some (.int .i64 0) := (blk_cell hbox 5).trans rfl
      have hfb5 := blk_frozen hbox 5
      have hcb6 : w4.cell? ⟨gb, 6, none⟩ = some (.int .i64 0) := (blk_cell hbox 6).trans rfl
      have hfb6 := blk_frozen hbox 6
      refine hK.out _ _ ⟨z0, z1, z2, z3, z4, z5, z6⟩ (fun hHeld => ?_)
      have hbox4 := Aside0.mk hbox
      clear hK K hHeld hbox hb hg
      refine norm_ (a' := ?_) ?_ ?_
      rotate_left
      · show Act.put _ (some 8) _ = _
        simp only [Act.put, List.setIfInBounds_toArray, List.set_cons_zero, List.set_cons_succ]
        rfl
      refine one_ (i := 23) (N := none) #[true, true, true, true, true, true, true, true, true, true, true, true, true, true, true, true, true, true, true, true, true, true, true, true] rfl rfl (one_of HT_.out (by kernel_rfl)) (by decide) (fun K hK => ?_)
      refine skip_ (w1 := ?_) (by rfl) rfl ?_ ?_
      rotate_left
      · go_simp
        rfl
      refine hK.out _ _ (by refine ⟨?_, ?_, ?_, ?_, ?_, ?_, ?_⟩ <;> (repeat rw [cell_far (p := ⟨gb, _, none⟩) hlt4]) <;> assumption) (fun hHeld => ?_)
      clear hK K
      refine done_ (done_of HT_.out (by kernel_rfl)) ?_
      obtain ⟨W5, hW5⟩ : ∃ W5, W5 = (((((((w4.setCell ⟨gb, 0, none⟩ (.int .i64 m0)).setCell ⟨gb, 1, none⟩ (.int .i64 m1)).setCell ⟨gb, 2, none⟩ (.int .i64 m2)).setCell ⟨gb, 3, none⟩ (.int .i64 m3)).setCell ⟨gb, 4, none⟩ (.int .i64 m4)).setCell ⟨gb, 5, none⟩ (.int .i64 m5)).setCell ⟨gb, 6, none⟩ (.int .i64 m6)) := ⟨_, rfl⟩
      rw [← hW5]
      have hblk : W5.heap[gb]? = some (.cells #[.int .i64 m0, .int .i64 m1, .int .i64 m2, .int .i64 m3, .int .i64 m4, .int .i64 m5, .int .i64 m6] 23 (0, 0)) := by
        rw [hW5]
        simpa using (blk_set (blk_set (blk_set (blk_set (blk_set (blk_set (blk_set hbox4.out 0 (.int .i64 m0)) 1 (.int .i64 m1)) 2 (.int .i64 m2)) 3 (.int .i64 m3)) 4 (.int .i64 m4)) 5 (.int .i64 m5)) 6 (.int .i64 m6))
      have hB5 : Below w1.heap.size w1 W5 := by
        rw [hW5]
        repeat refine Below.setCell ?_ hge1 _
        exact hB4.out
      clear hW5 hHeld z0 z1 z2 z3 z4 z5 z6 hc4 hf4 hcb0 hfb0 hcb1 hfb1 hcb2 hfb2 hcb3 hfb3 hcb4 hfb4 hcb5 hfb5 hcb6 hfb6
      have hcb0 : W5.cell? ⟨gb, 0, none⟩ = some (.int .i64 m0) := (blk_cell hblk 0).trans rfl
      have hfb0 := blk_frozen hblk 0
      have hcb1 : W5.cell? ⟨gb, 1, none⟩ = some (.int .i64 m1) := (blk_cell hblk 1).trans rfl
      have hfb1 := blk_frozen hblk 1
      have hcb2 : W5.cell? ⟨gb, 2, none⟩ = some (.int .i64 m2) := (blk_cell hblk 2).trans rfl
      have hfb2 := blk_frozen hblk 2
      have hcb3 : W5.cell? ⟨gb, 3, none⟩ = some (.int .i64 m3) := (blk_cell hblk 3).trans rfl
      have hfb3 := blk_frozen hblk 3
      have hcb4 : W5.cell? ⟨gb, 4, none⟩ = some (.int .i64 m4) := (blk_cell hblk 4).trans rfl
      have hfb4 := blk_frozen hblk 4
      have hcb5 : W5.cell? ⟨gb, 5, none⟩ = some (.int .i64 m5) := (blk_cell hblk 5).trans rfl
      have hfb5 := blk_frozen hblk 5
      have hcb6 : W5.cell? ⟨gb, 6, none⟩ = some (.int .i64 m6) := (blk_cell hblk 6).trans rfl
      have hfb6 := blk_frozen hblk 6
      obtain ⟨hc4, hf4⟩ := bcell hB5
      have HB5 := Aside0.mk hB5
      have hz4 : w.heap.size < W5.heap.size := Nat.lt_of_lt_of_le hz1 hB5.size
      have hgw5 : gb < W5.heap.size := blk_lt hblk
      clear hB5 hblk
      rcases HH.out with ⟨hno | ⟨hok, hne⟩, ha, rfl⟩ | ⟨hok, he, ha, rfl⟩
      · obtain ⟨rfl, rfl, rfl, rfl, rfl, rfl, rfl⟩ : a0 = 0 ∧ a1 = 0 ∧ a2 = 0 ∧ a3 = 0 ∧ a4 = 0 ∧ a5 = 0 ∧ a6 = 0 := by simpa using ha
        clear ha HH
        have HN := Aside0.mk hno
        clear hno
        go_wp2_with (first | (go_at_call 39; refine (actText_no m0 m1 m2 m3 m4 m5 m6 _ HN.out).mono ?_; rintro e w5 ⟨rfl, hb5⟩; obtain ⟨hc5, hf5⟩ := bcell hb5))
        refine bodyPost_ret (v := .tuple #[agg7 0 0 0 0 0 0 0, .bool false]) (by simp [results, Tryd.results6, go_sem, hc5, hc4, hc1, hz1, hz4]) rfl ⟨rfl, ?_⟩
        repeat refine Below.setCell ?_ (by simp) _
        exact below_then HB1.out HB1.out.size (below_then HB5.out HB5.out.size hb5)
      · obtain ⟨rfl, rfl, rfl, rfl, rfl, rfl, rfl⟩ : a0 = 0 ∧ a1 = 0 ∧ a2 = 0 ∧ a3 = 0 ∧ a4 = 0 ∧ a5 = 0 ∧ a6 = 0 := by simpa using ha
        have ht1 : (textL [m0, m1, m2, m3, m4, m5, m6] == s.toList) = false := by rw [Lib.toList_data]; simpa using hne
        clear ha HH hne
        have HN := Aside0.mk hok
        clear hok
        go_wp2_with (first | (go_at_call 39; refine (actText_yes m0 m1 m2 m3 m4 m5 m6 _ HN.out).mono ?_; rintro e w5 ⟨rfl, hb5⟩; obtain ⟨hc5, hf5⟩ := bcell hb5))
        refine bodyPost_ret (v := .tuple #[agg7 0 0 0 0 0 0 0, .bool false]) (by simp [results, Tryd.results6, go_sem, hc5, hc4, hc1, hz1, hz4]) rfl ⟨rfl, ?_⟩
        repeat refine Below.setCell ?_ (by simp) _
        exact below_then HB1.out HB1.out.size (below_then HB5.out HB5.out.size hb5)
      · obtain ⟨rfl, rfl, rfl, rfl, rfl, rfl, rfl⟩ : a0 = m0 ∧ a1 = m1 ∧ a2 = m2 ∧ a3 = m3 ∧ a4 = m4 ∧ a5 = m5 ∧ a6 = m6 := by simpa using ha
        have ht1 : (textL [a0, a1, a2, a3, a4, a5, a6] == s.toList) = true := by rw [Lib.toList_data]; simpa using he
        clear ha HH he
        have HN := Aside0.mk hok
        clear hok
        go_wp2_with (first | (go_at_call 39; refine (actText_yes a0 a1 a2 a3 a4 a5 a6 _ HN.out).mono ?_; rintro e w5 ⟨rfl, hb5⟩; obtain ⟨hc5, hf5⟩ := bcell hb5))
        refine bodyPost_ret (v := .tuple #[agg7 a0 a1 a2 a3 a4 a5 a6, .bool true]) (by simp [results, Tryd.results6, go_sem, hc5, hc4, hc1, hz1, hz4]) rfl ⟨rfl, ?_⟩
        repeat refine Below.setCell ?_ (by simp) _
        exact below_then HB1.out HB1.out.size (below_then HB5.out HB5.out.size hb5)
end Go.Proofs.YtjhaaaljlpcnaaaDoor.Y
