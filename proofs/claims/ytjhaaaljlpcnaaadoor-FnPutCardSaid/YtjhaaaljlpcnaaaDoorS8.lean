/- Stores: what the reference's NewStore and CrashStore of both sides compute. Conditions: the strings have at most 1048576 bytes. -/
import Derived.Test.YtjhaaaljlpcnaaaDoorS7
import Derived.RegionTactic
import Derived.BigRegion
namespace Go.Proofs.YtjhaaaljlpcnaaaDoor.S
set_option linter.unusedVariables false
set_option linter.unusedSimpArgs false
open Go.RowKit Go.Proofs.YtjhaaaljlpcnaaaDoorW.PrintWords Go.Proofs.YtjhaaaljlpcnaaaDoorW.PrintMore Go.Proofs.YtjhaaaljlpcnaaaDoor.X Go.Proofs.YtjhaaaljlpcnaaaDoor.A Go.Proofs.YtjhaaaljlpcnaaaDoor.Y

theorem size31 : (Tryd.prog.info? 31).map (·.size) = some 3 := by kernel_rfl
abbrev set3 (W : World) (g : Nat) (a b c : Value) : World := ((W.setCell ⟨g, 0, none⟩ a).setCell ⟨g, 1, none⟩ b).setCell ⟨g, 2, none⟩ c
theorem blk_set3 {W : World} {g : Nat} {t : TypeId} {x y z : Value} (h : W.heap[g]? = some (.cells #[x, y, z] t (0, 0))) (a b c : Value) : (set3 W g a b c).heap[g]? = some (.cells #[a, b, c] t (0, 0)) := blk_set (blk_set (blk_set h 0 a) 1 b) 2 c
theorem below_set3 {B : Nat} {w W : World} (h : Below B w W) {g : Nat} (hg : B ≤ g) (a b c : Value) : Below B w (set3 W g a b c) := ((h.setCell (p := ⟨g, 0, none⟩) hg a).setCell (p := ⟨g, 1, none⟩) hg b).setCell (p := ⟨g, 2, none⟩) hg c
theorem end_ct {fn : Func} {p u : Tmp} (hr : fn.results = #[.cell p 31, .tmp u]) {W : World} {tm : Array Value} {x y z a b c : Value} {g : Nat} {Post : Ending → World → Prop} (hg : W.heap[g]? = some (.cells #[x, y, z] 31 (0, 0))) (hp : tm.getD p undef = .pointer (some ⟨g, 0, none⟩))
    (hP : Post (.returned (.tuple #[.agg #[a, b, c], tm.getD u undef])) (set3 W g a b c)) : bodyPost Tryd.prog fn Post Exit.ret { tmps := tm, defers := [] } (set3 W g a b c) :=
  bodyPost_ret (results_ct hr _ _ g 31 #[a, b, c] (0, 0) _ hp (blk_set3 hg a b c) Tryd.underlying31 rfl (by rw [size31]; rfl)) rfl hP
theorem end_ctt {fn : Func} {p u v : Tmp} (hr : fn.results = #[.cell p 31, .tmp u, .tmp v]) {W : World} {tm : Array Value} {x y z a b c : Value} {g : Nat} {Post : Ending → World → Prop} (hg : W.heap[g]? = some (.cells #[x, y, z] 31 (0, 0))) (hp : tm.getD p undef = .pointer (some ⟨g, 0, none⟩))
    (hP : Post (.returned (.tuple #[.agg #[a, b, c], tm.getD u undef, tm.getD v undef])) (set3 W g a b c)) : bodyPost Tryd.prog fn Post Exit.ret { tmps := tm, defers := [] } (set3 W g a b c) :=
  bodyPost_ret (results_ctt hr _ _ g 31 #[a, b, c] (0, 0) _ hp (blk_set3 hg a b c) Tryd.underlying31 rfl (by rw [size31]; rfl)) rfl hP

theorem two {w w1 : World} {o1 o2 : Obj} (hb : Below ((w.alloc o1).alloc o2).heap.size ((w.alloc o1).alloc o2) w1) : w1.heap[w.heap.size]? = some o1 ∧ w1.heap[w.heap.size + 1]? = some o2 ∧ Below w.heap.size w w1 ∧ w.heap.size + 2 ≤ w1.heap.size := by
  refine ⟨blk_below (blk_alloc (blk_new w _) _) hb, ?_, below_then (below_alloc (below_alloc (Below.refl _ _) _) _) (by simp; omega) hb, ?_⟩
  · have := blk_below (blk_new (w.alloc o1) o2) hb
    simpa using this
  · have := hb.size
    simpa using this
theorem cells3 {W : World} {g : Nat} {t : TypeId} {x y z : Value} (h : W.heap[g]? = some (.cells #[x, y, z] t (0, 0))) : W.cell? ⟨g, 0, none⟩ = some x ∧ W.cell? ⟨g, 1, none⟩ = some y ∧ W.cell? ⟨g, 2, none⟩ = some z ∧ W.frozen? ⟨g, 0, none⟩ = false ∧ W.frozen? ⟨g, 1, none⟩ = false ∧ W.frozen? ⟨g, 2, none⟩ = false :=
  ⟨blk_cell h 0, blk_cell h 1, blk_cell h 2, blk_frozen h 0, blk_frozen h 1, blk_frozen h 2⟩

theorem newSpec (r : Int) (w : World) :
    Calls Tryd.prog 34 #[.int .i64 r] w fun e w' => e = .returned (.tuple #[if decide (0 ≤ r ∧ r ≤ 4000) then store r [] [] else store 0 [] [], .bool (decide (0 ≤ r ∧ r ≤ 4000))]) ∧ Below w.heap.size w w' := by
  have hR := goodSpec r [] [] (by simp) (by simp)
  have eg : good r [] [] = decide (0 ≤ r ∧ r ≤ 4000) := decide_eq_decide.2 (by simp; omega)
  rw [eg] at hR
  clear eg
  cases hg : decide (0 ≤ r ∧ r ≤ 4000)
  all_goals
    rw [hg] at hR
    clear hg
    go_enter Tryd.func34, Tryd.ntmps34
    go_wp2_with fail
    refine (hR _).mono ?_
    rintro e w1 ⟨rfl, hb1⟩
    obtain ⟨hc1, hf1⟩ := bcell hb1
    have hB1 : Below w.heap.size w w1 := below_then (below_alloc (below_alloc (Below.refl _ _) _) _) (by simp; omega) hb1
    have hz1 : w.heap.size + 1 < w1.heap.size := by (have := hb1.size; simp at this; omega)
    have hz0 : w.heap.size < w1.heap.size := by omega
    have hk := Lib.hid (blk_below (blk_alloc (blk_new w _) _) hb1)
    go_wp2
    exact end_ct rfl hk.out rfl ⟨rfl, below_set3 hB1 (Nat.le_refl _) _ _ _⟩

def crashB (r : Int) (a b : List UInt8) (k : Int) : Bool := good r a b && decide (0 ≤ k ∧ k ≤ (b.length : Int))
def crashV (r : Int) (a b : List UInt8) (k : Int) : Value := if crashB r a b k then store r (a ++ b.take k.toNat) [] else store 0 [] []

theorem ext_cat (a b : List UInt8) (K : Nat) : (⟨a.toArray⟩ : ByteArray) ++ (⟨b.toArray⟩ : ByteArray).extract 0 K = ⟨(a ++ b.take K).toArray⟩ := by
  rw [ext_list, Y.mk_append]
  simp

theorem crashImpl (r : Int) (a b : List UInt8) (k : Int) (ha : a.length ≤ 1048576) (hb : b.length ≤ 1048576) (w : World) :
    Calls Tryd.prog 11 #[store r a b, .int .i64 k] w fun e w' => e = .returned (.tuple #[crashV r a b k, .bool (crashB r a b k)]) ∧ Below w.heap.size w w' := by
  have hR := isStore r a b ha hb
  have hW := withinB k 0 b.length
  obtain ⟨V, hV⟩ : ∃ V, V = crashV r a b k := ⟨_, rfl⟩
  obtain ⟨C, hC⟩ : ∃ C, C = crashB r a b k := ⟨_, rfl⟩
  rw [← hV, ← hC]
  unfold crashV at hV
  rw [← hC] at hV
  unfold crashB at hC
  cases hg : good r a b with
  | false =>
    rw [hg] at hR hC
    simp at hC
    subst hC
    simp at hV
    subst hV
    clear hg hW
    go_enter Tryd.func11, Tryd.ntmps11
    go_wp2_with fail
    refine (hR _).mono ?_
    rintro e w1 ⟨rfl, hb1⟩
    obtain ⟨hk1, hk2, hB1, hz1⟩ := two hb1
    obtain ⟨c10, c11, c12, _, _, _⟩ := cells3 hk1
    obtain ⟨c20, c21, c22, f20, f21, f22⟩ := cells3 hk2
    have HB1 := Aside0.mk hB1
    have HK := Lib.hid hk2
    clear hk1 hk2 hB1 hb1 hz1
    go_wp2
    exact end_ct rfl HK.out rfl ⟨rfl, below_set3 HB1.out (by omega) _ _ _⟩
  | true =>
    rw [hg] at hR hC
    cases hd : decide (0 ≤ k ∧ k ≤ (b.length : Int)) with
    | false =>
      rw [hd] at hW hC
      simp at hC
      subst hC
      simp at hV
      subst hV
      clear hg hd
      go_enter Tryd.func11, Tryd.ntmps11
      go_wp2_with fail
      refine (hR _).mono ?_
      rintro e w1 ⟨rfl, hb1⟩
      obtain ⟨hk1, hk2, hB1, hz1⟩ := two hb1
      obtain ⟨c10, c11, c12, _, _, _⟩ := cells3 hk1
      obtain ⟨c20, c21, c22, f20, f21, f22⟩ := cells3 hk2
      have HB1 := Aside0.mk hB1
      have HK := Lib.hid hk2
      clear hk1 hk2 hB1 hb1 hz1
      go_wp2_with fail
      refine (hW _).mono ?_
      rintro e w2 ⟨rfl, ⟨nd, rfl⟩⟩
      go_wp2
      exact end_ct rfl (blk_drewN HK.out _) rfl ⟨rfl, below_set3 (pw_below_drewN HB1.out _) (by omega) _ _ _⟩
    | true =>
      rw [hd] at hW hC
      simp at hC
      subst hC
      simp at hV
      subst hV
      obtain ⟨h0, h1⟩ := of_decide_eq_true hd
      obtain ⟨K, rfl⟩ : ∃ K : Nat, k = (K : Int) := ⟨k.toNat, by omega⟩
      clear hg hd
      go_enter Tryd.func11, Tryd.ntmps11
      go_wp2_with fail
      refine (hR _).mono ?_
      rintro e w1 ⟨rfl, hb1⟩
      obtain ⟨hk1, hk2, hB1, hz1⟩ := two hb1
      obtain ⟨c10, c11, c12, _, _, _⟩ := cells3 hk1
      obtain ⟨c20, c21, c22, f20, f21, f22⟩ := cells3 hk2
      have HB1 := Aside0.mk hB1
      have HK := Lib.hid hk2
      clear hk1 hk2 hB1 hb1 hz1
      go_wp2_with fail
      refine (hW _).mono ?_
      rintro e w2 ⟨rfl, ⟨nd, rfl⟩⟩
      go_wp2_with fail
      go_region
      go_wp2
      exact end_ct rfl (blk_drewN HK.out _) rfl ⟨by simp only [ext_cat, Int.toNat_natCast]; rfl, below_set3 (pw_below_drewN HB1.out _) (by omega) _ _ _⟩

theorem crashSpec (r : Int) (a b : List UInt8) (k : Int) (ha : a.length ≤ 1048576) (hb : b.length ≤ 1048576) (w : World) :
    Calls Tryd.prog 12 #[store r a b, .int .i64 k] w fun e w' => e = .returned (.tuple #[crashV r a b k, .bool (crashB r a b k)]) ∧ Below w.heap.size w w' := by
  have hR := goodSpec r a b ha hb
  have hW := l1InB k 0 b.length
  obtain ⟨V, hV⟩ : ∃ V, V = crashV r a b k := ⟨_, rfl⟩
  obtain ⟨C, hC⟩ : ∃ C, C = crashB r a b k := ⟨_, rfl⟩
  rw [← hV, ← hC]
  unfold crashV at hV
  rw [← hC] at hV
  unfold crashB at hC
  cases hg : good r a b with
  | false =>
    rw [hg] at hR hC
    simp at hC
    subst hC
    simp at hV
    subst hV
    clear hg hW
    go_enter Tryd.func12, Tryd.ntmps12
    go_wp2_with fail
    refine (hR _).mono ?_
    rintro e w1 ⟨rfl, hb1⟩
    obtain ⟨hk1, hk2, hB1, hz1⟩ := two hb1
    obtain ⟨c10, c11, c12, _, _, _⟩ := cells3 hk1
    obtain ⟨c20, c21, c22, f20, f21, f22⟩ := cells3 hk2
    have HB1 := Aside0.mk hB1
    have HK := Lib.hid hk2
    clear hk1 hk2 hB1 hb1 hz1
    go_wp2
    exact end_ct rfl HK.out rfl ⟨rfl, below_set3 HB1.out (by omega) _ _ _⟩
  | true =>
    rw [hg] at hR hC
    cases hd : decide (0 ≤ k ∧ k ≤ (b.length : Int)) with
    | false =>
      rw [hd] at hW hC
      simp at hC
      subst hC
      simp at hV
      subst hV
      clear hg hd
      go_enter Tryd.func12, Tryd.ntmps12
      go_wp2_with fail
      refine (hR _).mono ?_
      rintro e w1 ⟨rfl, hb1⟩
      obtain ⟨hk1, hk2, hB1, hz1⟩ := two hb1
      obtain ⟨c10, c11, c12, _, _, _⟩ := cells3 hk1
      obtain ⟨c20, c21, c22, f20, f21, f22⟩ := cells3 hk2
      have HB1 := Aside0.mk hB1
      have HK := Lib.hid hk2
      clear hk1 hk2 hB1 hb1 hz1
      go_wp2_with fail
      refine (hW _).mono ?_
      rintro e w2 ⟨rfl, ⟨nd, rfl⟩⟩
      go_wp2
      exact end_ct rfl (blk_drewN HK.out _) rfl ⟨rfl, below_set3 (pw_below_drewN HB1.out _) (by omega) _ _ _⟩
    | true =>
      rw [hd] at hW hC
      simp at hC
      subst hC
      simp at hV
      subst hV
      obtain ⟨h0, h1⟩ := of_decide_eq_true hd
      obtain ⟨K, rfl⟩ : ∃ K : Nat, k = (K : Int) := ⟨k.toNat, by omega⟩
      clear hg hd
      go_enter Tryd.func12, Tryd.ntmps12
      go_wp2_with fail
      refine (hR _).mono ?_
      rintro e w1 ⟨rfl, hb1⟩
      obtain ⟨hk1, hk2, hB1, hz1⟩ := two hb1
      obtain ⟨c10, c11, c12, _, _, _⟩ := cells3 hk1
      obtain ⟨c20, c21, c22, f20, f21, f22⟩ := cells3 hk2
      have HB1 := Aside0.mk hB1
      have HK := Lib.hid hk2
      clear hk1 hk2 hB1 hb1 hz1
      go_wp2_with fail
      refine (hW _).mono ?_
      rintro e w2 ⟨rfl, ⟨nd, rfl⟩⟩
      go_wp2_with fail
      go_region
      go_wp2
      exact end_ct rfl (blk_drewN HK.out _) rfl ⟨by simp only [ext_cat, Int.toNat_natCast]; rfl, below_set3 (pw_below_drewN HB1.out _) (by omega) _ _ _⟩

end Go.Proofs.YtjhaaaljlpcnaaaDoor.S
