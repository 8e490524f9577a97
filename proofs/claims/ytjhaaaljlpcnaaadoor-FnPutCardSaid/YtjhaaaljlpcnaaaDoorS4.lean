/- What readFrames computes: the same texts as l17Read. Conditions: the string has at most 1048576 bytes; the library's variables as the program lays them. -/
import Derived.Test.YtjhaaaljlpcnaaaDoorS3
namespace Go.Proofs.YtjhaaaljlpcnaaaDoor.S
set_option linter.unusedVariables false
set_option linter.unusedSimpArgs false
open Go.RowKit Go.Proofs.YtjhaaaljlpcnaaaDoorW.PrintWords Go.Proofs.YtjhaaaljlpcnaaaDoorW.PrintMore Go.Proofs.YtjhaaaljlpcnaaaDoor.X Go.Proofs.YtjhaaaljlpcnaaaDoor.A

theorem atoi_dig2 : ∀ n < 61, Lib.atoiAll (dig n 2) = .ok (n : Int) := by decide +kernel
theorem ok_long {no L : Nat} {t : List UInt8} (h : okL no t L = true) (hL : L ≤ 60) : Lib.atoiAll ((t.drop 2).take 2) = .ok (L : Int) := by
  simp only [okL, Bool.and_eq_true, decide_eq_true_eq, beq_iff_eq] at h
  obtain ⟨h1, h2⟩ := h
  have h3 : ((t.take (8 + L)).drop 2).take 2 = (t.drop 2).take 2 := by
    rw [List.drop_take, List.take_take]
    congr 1
    omega
  have h4 : ((frameL no (mid t L)).drop 2).take 2 = dig (mid t L).length 2 := by
    have e : frameL no (mid t L) = dig no 2 ++ (dig (mid t L).length 2 ++ (mid t L ++ dig (sumL (headL no (mid t L)) % 9973) 4)) := by simp [frameL, headL]
    rw [e, List.drop_left' (dig_len no 2), List.take_left' (dig_len _ 2)]
  rw [← h3, ← h2, h4, mid_len h1]
  exact atoi_dig2 L (by omega)
theorem takeP_not {no : Nat} {t : List UInt8} (h : ∀ L : Nat, L ≤ 60 → Lib.atoiAll ((t.drop 2).take 2) = .ok (L : Int) → okL no t L = false) : takeP no t = none := find_none _ fun j hj => by
  cases hk : okL no t j with
  | false => rfl
  | true => exact absurd (h j (by omega) (ok_long hk (by omega))) (by simp [hk])
theorem takeP_yes {no L : Nat} {t : List UInt8} (hL : L ≤ 60) (h : okL no t L = true) : takeP no t = some L := find_step _ L (by omega) (fun j hj => by
  cases hk : okL no t j with
  | false => rfl
  | true =>
    have := (ok_long hk (by omega)).symm.trans (ok_long h hL)
    injection this with this
    omega) h

theorem within60 (v : Int) (r : Bool) (hr : r = decide (0 ≤ v ∧ v ≤ 60)) (w : World) : Calls Tryd.prog 44 #[.int .i64 v, .int .i64 0, .int .i64 60] w fun e w' => e = .returned (.bool r) ∧ Drawn0 w w' :=
  impl_within.calls v 0 60 r w (by
    unfold impl_within.f
    subst hr
    by_cases h : v ≥ 0
    · rw [if_pos h]
      simp [h]
    · rw [if_neg h]
      have : ¬ 0 ≤ v := h
      simp [this])

set_option maxRecDepth 20000 in
theorem readFrames (s : List UInt8) (hs : s.length ≤ 1048576) (w : World) (hG : GL w) :
    Calls Tryd.prog 46 #[.string ⟨s.toArray⟩] w fun e w' => ∃ v, e = .returned (.tuple #[v, .int .i64 ((readP 99 1 s).2 : Nat)]) ∧ Kd.R Kd.string 9 w' w.heap.size (fun _ => True) v (readP 99 1 s).1 ∧ Below w.heap.size w w' := by
  obtain ⟨R, hR⟩ : ∃ R, R = readP 99 1 s := ⟨_, rfl⟩
  rw [← hR]
  have HR := Lib.hid hR
  clear hR
  go_enter Tryd.func46, Tryd.ntmps46
  go_wp2
  go_loopg [4, 5, 6] 100 (fun gk v4 v5 v6 W => ∃ (i a : Nat) (l : List ByteArray), Aside0 (i ≤ 99 ∧ gk = 100 - i ∧ a ≤ s.length ∧ l.length = i ∧ R = (l ++ (readP (99 - i) (i + 1) (s.drop a)).1, a + (readP (99 - i) (i + 1) (s.drop a)).2)) ∧ v5 = .int .i64 a ∧ v6 = .int .i64 ((i : Int) + 1) ∧ Aside0 (Kd.R Kd.string 9 W w.heap.size (fun _ => True) v4 l) ∧ Aside0 (Below w.heap.size w W))
  case atStart => exact ⟨0, 0, [], ⟨by omega, rfl, by omega, rfl, by rw [HR.out]; simp⟩, rfl, rfl, ⟨Kd.R_nil _ _ _ _ _⟩, ⟨Below.refl _ _⟩⟩
  case round =>
    obtain ⟨i, a, l, HI, rfl, rfl, HO, HB⟩ := hrel
    have hi := HI.out.1
    have ha := HI.out.2.2.1
    by_cases hlt : i < 99
    · obtain ⟨t, ht⟩ : ∃ t, t = s.drop a := ⟨_, rfl⟩
      have HT := Lib.hid ht
      have ed : List.take (s.length - a) (List.drop a s) = t := by rw [ht]; exact List.take_of_length_le (by simp)
      have tl : t.length ≤ 1048576 := by rw [ht]; simp; omega
      have HE := Lib.hid ed
      clear ed ht
      by_cases h8 : t.length < 8
      · have hk : takeP (i + 1) t = none := takeP_not fun L hL _ => by
          have : ¬ L + 8 ≤ t.length := by omega
          simp [okL, this]
        have HK := Lib.hid hk
        clear hk hi
        go_upto_region 7 with (fail)
        simp only [ext_list, HE.out]
        go_wp2
        go_ret2
        have eR := HI.out.2.2.2.2
        rw [← HT.out, readP_none HK.out] at eR
        refine ⟨u4, ?_, ?_, HB.out⟩
        rotate_left
        · rw [eR, List.append_nil]
          exact HO.out
        · rw [eR]
          exact rfl
      · obtain ⟨z, hz⟩ : ∃ z, z = (t.drop 2).take 2 := ⟨_, rfl⟩
        have zl : z.length = 2 := by rw [hz]; simp; omega
        by_cases hok : ∃ v, Lib.atoiAll z = .ok v
        · obtain ⟨v, hv⟩ := hok
          have hA : ∀ W, Calls Tryd.prog 65 #[.string ⟨z.toArray⟩] W fun e w' => e = .returned (.tuple #[.int .i64 v, .nilIface]) ∧ Below W.heap.size W w' := fun W => atoi_ok ⟨z.toArray⟩ (by simp [ByteArray.size]; omega) v (by simpa using hv) W
          have HA := Lib.hid hA
          have HZ := Lib.hid hz
          have hone : ∀ L : Nat, Lib.atoiAll ((t.drop 2).take 2) = .ok (L : Int) → (L : Int) = v := fun L h => by
            rw [← hz, hv] at h
            injection h with h
            exact h.symm
          by_cases hr : 0 ≤ v ∧ v ≤ 60
          · obtain ⟨L, rfl⟩ : ∃ L : Nat, v = (L : Int) := ⟨v.toNat, by omega⟩
            have hL : L ≤ 60 := by omega
            have HW := Lib.hid (fun W => within60 (L : Int) true (by simp; omega) W)
            by_cases h8L : 8 + L ≤ t.length
            · have hB : ∀ (W : World), GL W → Calls Tryd.prog 52 #[.int .i64 ((i : Int) + 1), .string ⟨(mid t L).toArray⟩] W fun e w' => e = .returned (.string ⟨(frameL (i + 1) (mid t L)).toArray⟩) ∧ Below W.heap.size W w' := fun W hW => frameOf (i + 1) (mid t L) (by omega) (by rw [mid_len (by omega)]; exact hL) W hW
              obtain ⟨M, hM⟩ : ∃ M, M = mid t L := ⟨_, rfl⟩
              obtain ⟨F, hF⟩ : ∃ F, F = frameL (i + 1) (mid t L) := ⟨_, rfl⟩
              rw [← hF, ← hM] at hB
              have hml : M.length = L := by rw [hM]; exact mid_len (by omega)
              have e1 : (List.take (4 + L - 4) (List.drop 4 t)) = M := by rw [Nat.add_sub_cancel_left, hM]; rfl
              have HB0 := Lib.hid hB
              have HM := Lib.hid hM
              have HF := Lib.hid hF
              have HE1 := Lib.hid e1
              have HV := Lib.hid hv
              have HONE := Lib.hid hone
              clear hA hz hi hone hv hr hB hM hF e1
              go_upto_region 7 with (fail)
              simp only [ext_list, HE.out]
              go_wp2_with (first | (go_at_call 65; simp only [ext_list]; rw [show (List.take (4 - 2) (List.drop 2 t)) = z from HZ.out.symm]; refine (HA.out _).mono ?_; rintro e w1 ⟨rfl, hb1⟩) | (go_at_call 44; refine (HW.out _).mono ?_; rintro e w2 ⟨rfl, ⟨nd, rfl⟩⟩))
              simp only [ext_list, HE1.out]
              have HBB := Aside0.mk (pw_below_drewN (below_then HB.out HB.out.size hb1) nd)
              have HOO := Aside0.mk (Kd.R_drewN (Kd.R_below HO.out hb1) nd)
              clear HO HB hb1
              obtain ⟨W2, hW2⟩ : ∃ W2, W2 = w1.drewN nd := ⟨_, rfl⟩
              rw [← hW2] at HBB HOO ⊢
              clear hW2
              have s1 : IntKind.i64.wrap (8 + (L : Int)) = 8 + (L : Int) := IntWalk.i64_in _ (by omega)
              have s2 : (0 : Int) ≤ 8 + (L : Int) := by omega
              have s3 : (8 + (L : Int)).toNat = 8 + L := by omega
              have s4 : 8 + (L : Int) ≤ (t.length : Int) := by omega
              go_region_held3 (fun _ => True) (exact trivial) (first | (go_at_call 52; refine (HB0.out _ (hG.below (below_drew1 HBB.out))).mono ?_; rintro e w3 ⟨rfl, hb3⟩))
              rw [ext0]
              clear s1 s2 s3 s4
              cases hE : (F == List.take (8 + L) t) with
              | true =>
                have hk : takeP (i + 1) t = some L := takeP_yes hL (by
                  unfold okL
                  rw [← HF.out, hE]
                  simp; omega)
                have HK := Lib.hid hk
                have HX := Lib.hid hE
                clear hk hE
                have HB3 := Aside0.mk (below_then (below_drew1 HBB.out) HBB.out.size hb3)
                have HO3 := Aside0.mk (Kd.R_below (Kd.R_drew HOO.out) hb3)
                have hts : t.length ≤ s.length - a := by rw [HT.out]; simp
                clear HBB HOO hb3
                go_wp2_with (first | ((with_reducible refine gate_builtin (b := .append) (xs := #[.tmp 53, .tmp 55]) rfl ?_); at_builtin; refine Kd.R_append Kd.string (w0 := w) w.heap.size rfl (.tmp 53) (.tmp 55) 37 9 (.string ⟨#[]⟩) 16 rfl Tryd.underlying37 info9 rfl (by decide) (by omega) u4 l ⟨M.toArray⟩ [.string ⟨M.toArray⟩] (fun _ => True) (fun _ => False) rfl rfl ?aP (fun _ hk => hk.elim) ?aF ?aO ?aB ?aS ?aL ?_; (case aP => exact rfl); (case aB => exact HB3.out); (case aF => exact fun _ _ => trivial); (case aO => exact HO3.out); (case aS => exact HB3.out.size); (case aL => (have := HI.out.2.2.2.1; omega)); intro v3 w3 ho hb3 hg3 hat3))
                go_roundg (100 - (i + 1))
                case measure => have := HI.out.2.1; omega
                case rel =>
                  have eR := HI.out.2.2.2.2
                  rw [← HT.out, readP_some HK.out (by omega), ← HM.out, HT.out, List.drop_drop] at eR
                  have HI2 := HI.out
                  refine ⟨i + 1, a + (8 + L), l ++ [⟨M.toArray⟩], ⟨by omega, rfl, by omega, by simp [HI2.2.2.2.1], ?_⟩, rfl, by go_num, ⟨ho⟩, ⟨hb3⟩⟩
                  rw [eR, show 99 - (i + 1) = 99 - i - 1 by omega, List.append_assoc, List.singleton_append, Nat.add_assoc a]
              | false =>
                have hk : takeP (i + 1) t = none := takeP_not fun L' hL' h => by
                  have e1 := HONE.out L' h
                  have e : L' = L := by omega
                  subst e
                  unfold okL
                  rw [← HF.out, hE]
                  simp
                have HK := Lib.hid hk
                have HX := Lib.hid hE
                clear hk hE
                go_wp2
                go_ret2
                have eR := HI.out.2.2.2.2
                rw [← HT.out, readP_none HK.out] at eR
                refine ⟨u4, ?_, ?_, below_then (below_drew1 HBB.out) HBB.out.size hb3⟩
                rotate_left
                · rw [eR, List.append_nil]
                  exact Kd.R_below (Kd.R_drew HOO.out) hb3
                · rw [eR]
                  exact rfl
            · have hk : takeP (i + 1) t = none := takeP_not fun L' hL' h => by
                have := hone L' h
                have e : L' = L := by omega
                have : ¬ L' + 8 ≤ t.length := by omega
                simp [okL, this]
              have HK := Lib.hid hk
              clear hk hA hz hi hone hv hr
              go_upto_region 7 with (fail)
              simp only [ext_list, HE.out]
              go_wp2_with (first | (go_at_call 65; simp only [ext_list]; rw [show (List.take (4 - 2) (List.drop 2 t)) = z from HZ.out.symm]; refine (HA.out _).mono ?_; rintro e w1 ⟨rfl, hb1⟩) | (go_at_call 44; refine (HW.out _).mono ?_; rintro e w2 ⟨rfl, ⟨nd, rfl⟩⟩))
              go_ret2
              have eR := HI.out.2.2.2.2
              rw [← HT.out, readP_none HK.out] at eR
              refine ⟨u4, ?_, ?_, pw_below_drewN (below_then HB.out HB.out.size hb1) _⟩
              rotate_left
              · rw [eR, List.append_nil]
                exact Kd.R_drewN (Kd.R_below HO.out hb1) _
              · rw [eR]
                exact rfl
          · have hk : takeP (i + 1) t = none := takeP_not fun L hL h => by
              have := hone L h
              exact absurd hr (by simp; omega)
            have HK := Lib.hid hk
            have HW := Lib.hid (fun W => within60 v false (by simp [hr]) W)
            clear hk hA hz hi hone hv hr
            go_upto_region 7 with (fail)
            simp only [ext_list, HE.out]
            go_wp2_with (first | (go_at_call 65; simp only [ext_list]; rw [show (List.take (4 - 2) (List.drop 2 t)) = z from HZ.out.symm]; refine (HA.out _).mono ?_; rintro e w1 ⟨rfl, hb1⟩) | (go_at_call 44; refine (HW.out _).mono ?_; rintro e w2 ⟨rfl, ⟨nd, rfl⟩⟩))
            go_ret2
            have eR := HI.out.2.2.2.2
            rw [← HT.out, readP_none HK.out] at eR
            refine ⟨u4, ?_, ?_, pw_below_drewN (below_then HB.out HB.out.size hb1) _⟩
            rotate_left
            · rw [eR, List.append_nil]
              exact Kd.R_drewN (Kd.R_below HO.out hb1) _
            · rw [eR]
              exact rfl
        · have hA : ∀ W, GL W → Calls Tryd.prog 65 #[.string ⟨z.toArray⟩] W fun e w' => ∃ x N, e = .returned (.tuple #[.int .i64 x, .iface 102 (.pointer (some ⟨N, 0, none⟩))]) ∧ Below W.heap.size W w' := fun W hW => atoi_bad ⟨z.toArray⟩ (by simp [ByteArray.size]; omega) (fun v hv => hok ⟨v, by simpa using hv⟩) W hW
          have hk : takeP (i + 1) t = none := takeP_not fun L _ hL => absurd ⟨_, hz ▸ hL⟩ hok
          have HK := Lib.hid hk
          have HA := Lib.hid hA
          have HZ := Lib.hid hz
          clear hk hA hok hz hi
          go_upto_region 7 with (fail)
          simp only [ext_list, HE.out]
          go_wp2_with (first | (go_at_call 65; simp only [ext_list]; rw [show (List.take (4 - 2) (List.drop 2 t)) = z from HZ.out.symm]; refine (HA.out _ (hG.below HB.out)).mono ?_; rintro e w1 ⟨x, N, rfl, hb1⟩))
          go_ret2
          have eR := HI.out.2.2.2.2
          rw [← HT.out, readP_none HK.out] at eR
          refine ⟨u4, ?_, ?_, below_then HB.out HB.out.size hb1⟩
          rotate_left
          · rw [eR, List.append_nil]
            exact Kd.R_below HO.out hb1
          · rw [eR]
            exact rfl
    · have he : i = 99 := by omega
      have eR := HI.out.2.2.2.2
      rw [he] at eR
      have eR2 : R = (l, a) := by rw [eR]; simp [readP]
      have HR2 := Lib.hid eR2
      clear eR eR2
      go_wp2
      go_ret2
      refine ⟨u4, ?_, ?_, HB.out⟩
      rotate_left
      · rw [HR2.out]
        exact HO.out
      · rw [HR2.out]
        exact rfl
end Go.Proofs.YtjhaaaljlpcnaaaDoor.S
