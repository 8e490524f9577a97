/- Stores: what putFrame and l17Put compute. Conditions: the strings have at most 1048576 bytes together; the library's variables as the program lays them. -/
import Derived.Test.YtjhaaaljlpcnaaaDoorS9
namespace Go.Proofs.YtjhaaaljlpcnaaaDoor.S
set_option linter.unusedVariables false
set_option linter.unusedSimpArgs false
open Go.RowKit Go.Proofs.YtjhaaaljlpcnaaaDoorW.PrintWords Go.Proofs.YtjhaaaljlpcnaaaDoorW.PrintMore Go.Proofs.YtjhaaaljlpcnaaaDoor.X Go.Proofs.YtjhaaaljlpcnaaaDoor.A Go.Proofs.YtjhaaaljlpcnaaaDoor.Y

def putC (r : Int) (a b t : List UInt8) : Nat :=
  if 60 < t.length then 1 else if (readP 99 1 (a ++ b)).2 < a.length + b.length then 2 else if 99 ≤ (readP 99 1 (a ++ b)).1.length then 3 else if r < (((readP 99 1 (a ++ b)).2 + 8 + t.length : Nat) : Int) then 4 else 0
def putL (r : Int) (a b t : List UInt8) : List UInt8 := if putC r a b t = 0 then b ++ frameL ((readP 99 1 (a ++ b)).1.length + 1) t else b
theorem readP_len : ∀ k no (s : List UInt8), (readP k no s).1.length ≤ k
  | 0, _, _ => by simp [readP]
  | k + 1, no, s => by
    rw [readP]
    cases h : takeP no s with
    | none => simp
    | some L =>
      have h2 := readP_len k (no + 1) (s.drop (8 + L))
      simp at h2 ⊢
      omega


theorem putImpl (r : Int) (a b t : List UInt8) (hl : (a ++ b).length ≤ 1048576) (ht : t.length ≤ 1048576) (hr0 : -9223372036854775808 ≤ r) (hr1 : r ≤ 9223372036854775807) (w : World) (hG : GL w) :
    Calls Tryd.prog 47 #[store r a b, .string ⟨t.toArray⟩] w fun e w' => e = .returned (.tuple #[store r a (putL r a b t), .int .i64 (putC r a b t : Nat)]) ∧ Below w.heap.size w w' := by
  have hF := fun W hW => readFrames (a ++ b) hl W hW
  rw [← Y.mk_append] at hF
  have hl1 : a.length + b.length ≤ 1048576 := by simpa using hl
  have hle := readP_le 99 1 (a ++ b)
  have hlen := readP_len 99 1 (a ++ b)
  rw [List.length_append] at hle
  obtain ⟨C, hC⟩ : ∃ C, C = putC r a b t := ⟨_, rfl⟩
  obtain ⟨V, hV⟩ : ∃ V, V = putL r a b t := ⟨_, rfl⟩
  rw [← hC, ← hV]
  unfold putL at hV
  rw [← hC] at hV
  unfold putC at hC
  obtain ⟨N, hN⟩ : ∃ N, N = (readP 99 1 (a ++ b)).2 := ⟨_, rfl⟩
  obtain ⟨l, hll⟩ : ∃ l, l = (readP 99 1 (a ++ b)).1 := ⟨_, rfl⟩
  rw [← hN] at hF hC hle
  rw [← hll] at hF hC hV hlen
  clear hN hll hl
  by_cases h60 : 60 < t.length
  · rw [if_pos h60] at hC
    subst hC
    simp at hV
    subst hV
    go_enter Tryd.func47, Tryd.ntmps47
    go_wp2_with fail
    refine (hF _ (hG.below (below_alloc (below_alloc (Below.refl _ _) _) _))).mono ?_
    rintro e w1 ⟨v, rfl, hv, hb1⟩
    obtain ⟨A, c, rfl, hlc, hC⟩ := Kd.R_reads hv
    obtain ⟨hk1, hk2, hB1, hz1⟩ := two hb1
    obtain ⟨c10, c11, c12, f10, f11, f12⟩ := cells3 hk1
    obtain ⟨c20, c21, c22, f20, f21, f22⟩ := cells3 hk2
    have HB1 := Aside0.mk hB1
    have HK1 := Lib.hid hk1
    have HK := Lib.hid hk2
    clear hk1 hk2 hB1 hb1 hz1 hv hC
    go_wp2
    exact end_ct rfl HK.out rfl ⟨rfl, below_set3 HB1.out (by omega) _ _ _⟩
  · rw [if_neg h60] at hC
    have h60 : t.length ≤ 60 := by omega
    by_cases hN : N < a.length + b.length
    · rw [if_pos hN] at hC
      subst hC
      simp at hV
      subst hV
      go_enter Tryd.func47, Tryd.ntmps47
      go_wp2_with fail
      refine (hF _ (hG.below (below_alloc (below_alloc (Below.refl _ _) _) _))).mono ?_
      rintro e w1 ⟨v, rfl, hv, hb1⟩
      obtain ⟨A, c, rfl, hlc, hC⟩ := Kd.R_reads hv
      obtain ⟨hk1, hk2, hB1, hz1⟩ := two hb1
      obtain ⟨c10, c11, c12, f10, f11, f12⟩ := cells3 hk1
      obtain ⟨c20, c21, c22, f20, f21, f22⟩ := cells3 hk2
      have HB1 := Aside0.mk hB1
      have HK1 := Lib.hid hk1
      have HK := Lib.hid hk2
      clear hk1 hk2 hB1 hb1 hz1 hv hC
      go_wp2
      exact end_ct rfl HK.out rfl ⟨rfl, below_set3 HB1.out (by omega) _ _ _⟩
    · rw [if_neg hN] at hC
      by_cases h99 : 99 ≤ l.length
      · rw [if_pos h99] at hC
        subst hC
        simp at hV
        subst hV
        have e99 : ((l.length : Int) == 99) = true := by simp; omega
        go_enter Tryd.func47, Tryd.ntmps47
        go_wp2_with fail
        refine (hF _ (hG.below (below_alloc (below_alloc (Below.refl _ _) _) _))).mono ?_
        rintro e w1 ⟨v, rfl, hv, hb1⟩
        obtain ⟨A, c, rfl, hlc, hC⟩ := Kd.R_reads hv
        obtain ⟨hk1, hk2, hB1, hz1⟩ := two hb1
        obtain ⟨c10, c11, c12, f10, f11, f12⟩ := cells3 hk1
        obtain ⟨c20, c21, c22, f20, f21, f22⟩ := cells3 hk2
        have HB1 := Aside0.mk hB1
        have HK1 := Lib.hid hk1
        have HK := Lib.hid hk2
        clear hk1 hk2 hB1 hb1 hz1 hv hC
        go_wp2
        exact end_ct rfl HK.out rfl ⟨rfl, below_set3 HB1.out (by omega) _ _ _⟩
      · rw [if_neg h99] at hC
        have e99 : ((l.length : Int) == 99) = false := by simp; omega
        have hFr := fun W hW => frameOf (l.length + 1) t (by omega) h60 W hW
        rw [show ((l.length + 1 : Nat) : Int) = (l.length : Int) + 1 from by omega] at hFr
        have hfl := frameL_len (l.length + 1) t
        obtain ⟨F, hFF⟩ : ∃ F, F = frameL (l.length + 1) t := ⟨_, rfl⟩
        rw [← hFF] at hFr hV hfl
        have HFL := Lib.hid hfl
        have hF1 : F.length ≤ 68 := by omega
        have hF2 : 8 + t.length ≤ F.length ∧ F.length ≤ 8 + t.length := by omega
        clear hFF hfl
        by_cases h4 : r < ((N + 8 + t.length : Nat) : Int)
        · rw [if_pos h4] at hC
          subst hC
          simp at hV
          subst hV
          have h4' : r < (N : Int) + 8 + t.length := by omega
          clear h4
          go_enter Tryd.func47, Tryd.ntmps47
          go_wp2_with fail
          refine (hF _ (hG.below (below_alloc (below_alloc (Below.refl _ _) _) _))).mono ?_
          rintro e w1 ⟨v, rfl, hv, hb1⟩
          obtain ⟨A, c, rfl, hlc, hC⟩ := Kd.R_reads hv
          obtain ⟨hk1, hk2, hB1, hz1⟩ := two hb1
          obtain ⟨c10, c11, c12, f10, f11, f12⟩ := cells3 hk1
          obtain ⟨c20, c21, c22, f20, f21, f22⟩ := cells3 hk2
          have HB1 := Aside0.mk hB1
          have HK1 := Lib.hid hk1
          have HK := Lib.hid hk2
          clear hk1 hk2 hB1 hb1 hz1 hv hC
          go_wp2_with fail
          refine (hFr _ (hG.below HB1.out)).mono ?_
          rintro e w2 ⟨rfl, hb2⟩
          have hk1 := blk_below HK1.out hb2
          have hk2 := blk_below HK.out hb2
          clear c10 c11 c12 f10 f11 f12 c20 c21 c22 f20 f21 f22
          obtain ⟨c10, c11, c12, f10, f11, f12⟩ := cells3 hk1
          obtain ⟨c20, c21, c22, f20, f21, f22⟩ := cells3 hk2
          have HB2 := Aside0.mk (below_then HB1.out HB1.out.size hb2)
          have HK2 := Lib.hid hk2
          clear hk1 hk2 hb2
          go_wp2
          exact end_ct rfl HK2.out rfl ⟨rfl, below_set3 HB2.out (by omega) _ _ _⟩
        · rw [if_neg h4] at hC
          subst hC
          simp at hV
          subst hV
          have h4' : (N : Int) + 8 + t.length ≤ r := by omega
          clear h4
          go_enter Tryd.func47, Tryd.ntmps47
          go_wp2_with fail
          refine (hF _ (hG.below (below_alloc (below_alloc (Below.refl _ _) _) _))).mono ?_
          rintro e w1 ⟨v, rfl, hv, hb1⟩
          obtain ⟨A, c, rfl, hlc, hC⟩ := Kd.R_reads hv
          obtain ⟨hk1, hk2, hB1, hz1⟩ := two hb1
          obtain ⟨c10, c11, c12, f10, f11, f12⟩ := cells3 hk1
          obtain ⟨c20, c21, c22, f20, f21, f22⟩ := cells3 hk2
          have HB1 := Aside0.mk hB1
          have HK1 := Lib.hid hk1
          have HK := Lib.hid hk2
          clear hk1 hk2 hB1 hb1 hz1 hv hC
          go_wp2_with fail
          refine (hFr _ (hG.below HB1.out)).mono ?_
          rintro e w2 ⟨rfl, hb2⟩
          have hk1 := blk_below HK1.out hb2
          have hk2 := blk_below HK.out hb2
          clear c10 c11 c12 f10 f11 f12 c20 c21 c22 f20 f21 f22
          obtain ⟨c10, c11, c12, f10, f11, f12⟩ := cells3 hk1
          obtain ⟨c20, c21, c22, f20, f21, f22⟩ := cells3 hk2
          have HB2 := Aside0.mk (below_then HB1.out HB1.out.size hb2)
          have HK2 := Lib.hid hk2
          clear hk1 hk2 hb2
          go_wp2
          refine end_ct rfl (blk_far HK2.out (by simp) _) rfl ⟨?_, below_set3 (Below.setCell HB2.out (by simp) _) (by omega) _ _ _⟩
          simp only [Y.mk_append]
          rfl
end Go.Proofs.YtjhaaaljlpcnaaaDoor.S
