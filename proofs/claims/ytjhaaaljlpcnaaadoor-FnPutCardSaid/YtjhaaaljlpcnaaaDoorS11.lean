/- Stores: what l17Put computes. Conditions: the strings have at most 1048576 bytes together. -/
import Derived.Test.YtjhaaaljlpcnaaaDoorS10
import Derived.Deep.RegionWith
import Derived.Deep.RegionLaw
import Derived.Deep.RegionHeld3
import Derived.IntWalk
namespace Go.Proofs.YtjhaaaljlpcnaaaDoor.S
set_option linter.unusedVariables false
set_option linter.unusedSimpArgs false
open Go.RowKit Go.Proofs.YtjhaaaljlpcnaaaDoorW.PrintWords Go.Proofs.YtjhaaaljlpcnaaaDoorW.PrintMore Go.Proofs.YtjhaaaljlpcnaaaDoor.X Go.Proofs.YtjhaaaljlpcnaaaDoor.A Go.Proofs.YtjhaaaljlpcnaaaDoor.Y

theorem putSpec (r : Int) (a b t : List UInt8) (hl : (a ++ b).length ≤ 1048576) (ht : t.length ≤ 1048576) (hr0 : -9223372036854775808 ≤ r) (hr1 : r ≤ 9223372036854775807) (w : World) :
    Calls Tryd.prog 50 #[store r a b, .string ⟨t.toArray⟩] w fun e w' => e = .returned (.tuple #[store r a (putL r a b t), .int .i64 (putC r a b t : Nat)]) ∧ Below w.heap.size w w' := by
  have hF := fun W => l17Read (a ++ b) hl W
  rw [← Y.mk_append] at hF
  have hl1 : a.length + b.length ≤ 1048576 := by simpa using hl
  have hle := readP_le 99 1 (a ++ b)
  have hlen := readP_len 99 1 (a ++ b)
  rw [List.length_append] at hle
  obtain ⟨C, hC⟩ : ∃ C, C = putC r a b t := ⟨_, rfl⟩
  obtain ⟨V, hV⟩ : ∃ V, V = putL r a b t := ⟨_, rfl⟩
  rw [← hC, ← hV]
  unfold putL at hV
  rw [← hC] at hV
  unfold putC at hC
  obtain ⟨N, hN⟩ : ∃ N, N = (readP 99 1 (a ++ b)).2 := ⟨_, rfl⟩
  obtain ⟨l, hll⟩ : ∃ l, l = (readP 99 1 (a ++ b)).1 := ⟨_, rfl⟩
  rw [← hN] at hF hC hle
  rw [← hll] at hF hC hV hlen
  clear hN hll hl
  by_cases h60 : 60 < t.length
  · rw [if_pos h60] at hC
    subst hC
    simp at hV
    subst hV
    go_enter Tryd.func50, Tryd.ntmps50
    go_wp2_with fail
    refine (hF _).mono ?_
    rintro e w1 ⟨v, rfl, hv, hb1⟩
    obtain ⟨A, c, rfl, hlc, hC⟩ := Kd.R_reads hv
    obtain ⟨hk1, hk2, hB1, hz1⟩ := two hb1
    obtain ⟨c10, c11, c12, f10, f11, f12⟩ := cells3 hk1
    obtain ⟨c20, c21, c22, f20, f21, f22⟩ := cells3 hk2
    have HB1 := Aside0.mk hB1
    have HK1 := Lib.hid hk1
    have HK := Lib.hid hk2
    clear hk1 hk2 hB1 hb1 hz1 hv hC
    go_wp2
    exact end_ct rfl HK.out rfl ⟨rfl, below_set3 HB1.out (by omega) _ _ _⟩
  · rw [if_neg h60] at hC
    have h60 : t.length ≤ 60 := by omega
    by_cases hN : N < a.length + b.length
    · rw [if_pos hN] at hC
      subst hC
      simp at hV
      subst hV
      go_enter Tryd.func50, Tryd.ntmps50
      go_wp2_with fail
      refine (hF _).mono ?_
      rintro e w1 ⟨v, rfl, hv, hb1⟩
      obtain ⟨A, c, rfl, hlc, hC⟩ := Kd.R_reads hv
      obtain ⟨hk1, hk2, hB1, hz1⟩ := two hb1
      obtain ⟨c10, c11, c12, f10, f11, f12⟩ := cells3 hk1
      obtain ⟨c20, c21, c22, f20, f21, f22⟩ := cells3 hk2
      have HB1 := Aside0.mk hB1
      have HK1 := Lib.hid hk1
      have HK := Lib.hid hk2
      clear hk1 hk2 hB1 hb1 hz1 hv hC
      go_wp2
      exact end_ct rfl HK.out rfl ⟨rfl, below_set3 HB1.out (by omega) _ _ _⟩
    · rw [if_neg hN] at hC
      by_cases h99 : 99 ≤ l.length
      · rw [if_pos h99] at hC
        subst hC
        simp at hV
        subst hV
        have e99 : ((l.length : Int) == 99) = true := by simp; omega
        go_enter Tryd.func50, Tryd.ntmps50
        go_wp2_with fail
        refine (hF _).mono ?_
        rintro e w1 ⟨v, rfl, hv, hb1⟩
        obtain ⟨A, c, rfl, hlc, hC⟩ := Kd.R_reads hv
        obtain ⟨hk1, hk2, hB1, hz1⟩ := two hb1
        obtain ⟨c10, c11, c12, f10, f11, f12⟩ := cells3 hk1
        obtain ⟨c20, c21, c22, f20, f21, f22⟩ := cells3 hk2
        have HB1 := Aside0.mk hB1
        have HK1 := Lib.hid hk1
        have HK := Lib.hid hk2
        clear hk1 hk2 hB1 hb1 hz1 hv hC
        go_wp2
        exact end_ct rfl HK.out rfl ⟨rfl, below_set3 HB1.out (by omega) _ _ _⟩
      · rw [if_neg h99] at hC
        have e99 : ((l.length : Int) == 99) = false := by simp; omega
        have hFr := fun W => l17Frame (l.length + 1) t (by omega) h60 W
        rw [show ((l.length + 1 : Nat) : Int) = (l.length : Int) + 1 from by omega] at hFr
        have hfl := frameL_len (l.length + 1) t
        obtain ⟨F, hFF⟩ : ∃ F, F = frameL (l.length + 1) t := ⟨_, rfl⟩
        rw [← hFF] at hFr hV hfl
        have HFL := Lib.hid hfl
        have hF1 : F.length ≤ 68 := by omega
        have hF2 : 8 + t.length ≤ F.length ∧ F.length ≤ 8 + t.length := by omega
        clear hFF hfl
        by_cases h4 : r < ((N + 8 + t.length : Nat) : Int)
        · rw [if_pos h4] at hC
          subst hC
          simp at hV
          subst hV
          have h4' : r < (N : Int) + 8 + t.length := by omega
          clear h4
          go_enter Tryd.func50, Tryd.ntmps50
          go_wp2_with fail
          refine (hF _).mono ?_
          rintro e w1 ⟨v, rfl, hv, hb1⟩
          obtain ⟨A, c, rfl, hlc, hC⟩ := Kd.R_reads hv
          obtain ⟨hk1, hk2, hB1, hz1⟩ := two hb1
          obtain ⟨c10, c11, c12, f10, f11, f12⟩ := cells3 hk1
          obtain ⟨c20, c21, c22, f20, f21, f22⟩ := cells3 hk2
          have HB1 := Aside0.mk hB1
          have HK1 := Lib.hid hk1
          have HK := Lib.hid hk2
          clear hk1 hk2 hB1 hb1 hz1 hv hC
          go_wp2
          exact end_ct rfl HK.out rfl ⟨rfl, below_set3 HB1.out (by omega) _ _ _⟩
        · rw [if_neg h4] at hC
          subst hC
          simp at hV
          subst hV
          have h4' : (N : Int) + 8 + t.length ≤ r := by omega
          clear h4
          go_enter Tryd.func50, Tryd.ntmps50
          go_wp2_with fail
          refine (hF _).mono ?_
          rintro e w1 ⟨v, rfl, hv, hb1⟩
          obtain ⟨A, c, rfl, hlc, hC⟩ := Kd.R_reads hv
          obtain ⟨hk1, hk2, hB1, hz1⟩ := two hb1
          obtain ⟨c10, c11, c12, f10, f11, f12⟩ := cells3 hk1
          obtain ⟨c20, c21, c22, f20, f21, f22⟩ := cells3 hk2
          have HB1 := Aside0.mk hB1
          have HK1 := Lib.hid hk1
          have HK := Lib.hid hk2
          clear hk1 hk2 hB1 hb1 hz1 hv hC
          go_wp2_with fail
          have s1 : IntKind.i64.wrap ((l.length : Int) + 1) = (l.length : Int) + 1 := IntWalk.i64_in _ (by omega)
          have z1 := fun (W : World) => run_string_add_sum (P := Tryd.prog) (w := W) ⟨b.toArray⟩ ⟨F.toArray⟩ (by simp [ByteArray.size]; omega)
          clear c10 c11 f10 f11 c20 c21 c22 f20 f21 f22
          go_region_law (first | (go_simp; go_at_call 53; refine (hFr _).mono ?_; rintro e w2 ⟨rfl, hb2⟩; obtain ⟨d10, d11, d12, g10, g11, g12⟩ := cells3 (blk_below (blk_drew HK1.out) hb2)))
          all_goals
            have hk2 := blk_below (blk_drew HK.out) hb2
            obtain ⟨c20, c21, c22, f20, f21, f22⟩ := cells3 hk2
            have HB2 := Aside0.mk (below_then (below_drew HB1.out) HB1.out.size hb2)
            have HK2 := Lib.hid hk2
            clear hk2 hb2
            go_wp2
            refine end_ct rfl (blk_far HK2.out (by simp) _) rfl ⟨?_, below_set3 (Below.setCell HB2.out (by simp) _) (by omega) _ _ _⟩
            simp only [Y.mk_append]
            rfl
end Go.Proofs.YtjhaaaljlpcnaaaDoor.S
