/- The statement FnPut as a walk: every code and more; the library's variables as the program lays them. -/
import Derived.Test.YtjhaaaljlpcnaaaDoorV2
namespace Go.Proofs.YtjhaaaljlpcnaaaDoor.V
set_option linter.unusedVariables false
set_option linter.unusedSimpArgs false
open Go.RowKit Go.Proofs.YtjhaaaljlpcnaaaDoorW.PrintWords Go.Proofs.YtjhaaaljlpcnaaaDoor.S Go.Proofs.YtjhaaaljlpcnaaaDoor.U Go.Proofs.YtjhaaaljlpcnaaaDoor.X

abbrev box (r : Int) (a b : List UInt8) : Obj := .cells #[.int .i64 r, .string ⟨a.toArray⟩, .string ⟨b.toArray⟩] 31 (0, 0)
theorem cells_box {W : World} {g : Nat} {r : Int} {a b : List UInt8} (h : W.heap[g]? = some (box r a b)) : W.cell? ⟨g, 0, none⟩ = some (.int .i64 r) ∧ W.cell? ⟨g, 1, none⟩ = some (.string ⟨a.toArray⟩) ∧ W.cell? ⟨g, 2, none⟩ = some (.string ⟨b.toArray⟩) ∧ g < W.heap.size :=
  ⟨blk_cell h 0, blk_cell h 1, blk_cell h 2, blk_lt h⟩
theorem good_len {r : Int} {a b : List UInt8} (h : good r a b = true) : 0 ≤ r ∧ r ≤ 4000 ∧ a.length + b.length ≤ 4000 ∧ ((a.length : Int) + b.length ≤ r) := by
  have := of_decide_eq_true h
  omega
theorem good_of {r : Int} {a b : List UInt8} (h0 : 0 ≤ r) (h1 : r ≤ 4000) (h2 : (a.length : Int) + b.length ≤ r) : good r a b = true := decide_eq_true ⟨h0, h1, h2⟩
theorem put_out (r : Int) (a b t : List UInt8) : ∃ (r1 : Int) (a1 b1 : List UInt8), putR r a b t = S.store r1 a1 b1 ∧ (good r a b = true → r1 = r ∧ a1 = a ∧ b1 = putL r a b t ∧ putK r a b t = putC r a b t) := by
  unfold putR putK
  split
  · rename_i h
    exact ⟨r, a, _, rfl, fun _ => ⟨rfl, rfl, rfl, rfl⟩⟩
  · rename_i h
    exact ⟨0, [], [], rfl, fun h' => absurd h' h⟩
theorem sync_out (r : Int) (a b : List UInt8) : ∃ (r1 : Int) (a1 : List UInt8), (if good r a b then S.store r (a ++ b) [] else S.store 0 [] []) = S.store r1 a1 [] := by
  split
  · exact ⟨r, _, rfl⟩
  · exact ⟨0, [], rfl⟩
theorem new_out (r : Int) (p : Bool) : ∃ r1 : Int, (if p then S.store r [] [] else S.store 0 [] []) = S.store r1 [] [] := by
  split
  · exact ⟨r, rfl⟩
  · exact ⟨0, rfl⟩
def Fine (w : World) (e : Ending) (w' : World) : Prop := e = .returned (.bool true) ∧ Below w.heap.size w w'

set_option maxRecDepth 100000 in
theorem put_big (A A2 : Option Addr) (n c n2 c2 : Nat) (w : World) (hn : n ≤ 140737488351232) (hm : n2 ≤ 140737488351232) (h : 1048576 < n + n2) :
    Calls Tryd.prog 5 #[.slice A n c, .slice A2 n2 c2] w (Fine w) := by
  have hb := S.big A A2 n n2 c c2 hn hm
  rw [decide_eq_true h] at hb
  go_enter Tryd.func5, Tryd.ntmps5
  go_wp2_with fail
  refine (hb _).mono ?_
  rintro e w1 ⟨rfl, rfl⟩
  go_wp2
  go_ret
  exact ⟨rfl, Below.refl _ _⟩

set_option maxHeartbeats 8000000 in
set_option maxRecDepth 100000 in
theorem put_law (A A2 : Option Addr) (n c n2 c2 : Nat) (xs xs2 : List Int) (w : World) (hG : GL w) (hc1 : U.Code w A n xs) (hc2 : U.Code w A2 n2 xs2) (hn : n ≤ 140737488351232) (hm : n2 ≤ 140737488351232) (h : ¬ 1048576 < n + n2) :
    Calls Tryd.prog 5 #[.slice A n c, .slice A2 n2 c2] w (Fine w) := by
  have hb := S.big A A2 n n2 c c2 hn hm
  rw [decide_eq_false h] at hb
  have HC1 := Lib.hid hc1
  have HC2 := Lib.hid hc2
  clear hc1 hc2 h hn hm
  go_enter Tryd.func5, Tryd.ntmps5
  go_wp2_with fail
  refine (hb _).mono ?_
  rintro e w0 ⟨rfl, rfl⟩
  clear hb
  have H0 := Aside0.mk (Below.refl w.heap.size w)
  go_wp2_with fail
  refine (drawPut A n c xs _ HC1.out).mono ?_
  rintro e w1 ⟨r, a, b, t, hr, hl, htl, rfl, hb⟩
  have Hw1 := Aside0.mk (below_then H0.out H0.out.size hb)
  clear hb 
  obtain ⟨hr0, hr1⟩ := hr
  obtain ⟨r1, a1, b1, hV, hP⟩ := put_out r a b t
  have hI := fun W hW => putFImpl r a b t (by simp; omega) (by omega) hr0 hr1 W hW
  have hS := fun W => putFSpec r a b t (by simp; omega) (by omega) hr0 hr1 W
  rw [hV] at hI hS
  have HP := Lib.hid hP
  obtain ⟨KK, hK⟩ : ∃ q, q = putK r a b t := ⟨_, rfl⟩
  obtain ⟨G, hGe⟩ : ∃ q, q = good r a b := ⟨_, rfl⟩
  rw [← hK] at hI hS
  rw [← hGe] at hI hS
  have HK := Lib.hid hK
  have HGE := Lib.hid hGe
  clear hV hP hK hGe
  go_wp2_with fail
  refine (hI _ (hG.below (below_alloc Hw1.out _))).mono ?_
  rintro e w2 ⟨rfl, hb⟩
  have k5 : w2.heap[w1.heap.size]? = some (box r a b) := blk_below (blk_new w1 _) hb
  obtain ⟨S5, e5⟩ : ∃ q, q = w1.heap.size := ⟨_, rfl⟩
  rw [← e5] at k5 ⊢
  clear e5
  obtain ⟨p50, p51, p52, l5⟩ := cells_box k5
  have K5 := Lib.hid k5
  clear k5
  have Hw2 := Aside0.mk (below_then (below_alloc Hw1.out _) (by have := Hw1.out.size; simp; omega) hb)
  clear hb hI
  go_wp2_with fail
  refine (hS _).mono ?_
  rintro e w3 ⟨rfl, hb⟩
  have k5 : w3.heap[S5]? = some (box r a b) := blk_below (blk_alloc K5.out _) hb
  clear p50 p51 p52 l5 K5
  obtain ⟨p50, p51, p52, l5⟩ := cells_box k5
  have K5 := Lib.hid k5
  clear k5
  have k7 : w3.heap[w2.heap.size]? = some (box r1 a1 b1) := blk_below (blk_new w2 _) hb
  obtain ⟨S7, e7⟩ : ∃ q, q = w2.heap.size := ⟨_, rfl⟩
  rw [← e7] at k7 ⊢
  clear e7
  obtain ⟨p70, p71, p72, l7⟩ := cells_box k7
  have K7 := Lib.hid k7
  clear k7
  have Hw3 := Aside0.mk (below_then (below_alloc Hw2.out _) (by have := Hw2.out.size; simp; omega) hb)
  clear hb hS
  have hne := neq_store r1 a1 b1
  cases G with
  | false =>
    go_wp2_with fail
    refine (drawFrame A2 n2 c2 xs2 _ (HC2.out.below (below_alloc Hw3.out _))).mono ?_
    rintro e x1 ⟨k, t', hk0, hk1, ht', rfl, hb⟩
    have k5 : x1.heap[S5]? = some (box r a b) := blk_below (blk_alloc K5.out _) hb
    clear p50 p51 p52 l5 K5
    obtain ⟨p50, p51, p52, l5⟩ := cells_box k5
    have K5 := Lib.hid k5
    clear k5
    have k7 : x1.heap[S7]? = some (box r1 a1 b1) := blk_below (blk_alloc K7.out _) hb
    clear p70 p71 p72 l7 K7
    obtain ⟨p70, p71, p72, l7⟩ := cells_box k7
    have K7 := Lib.hid k7
    clear k7
    have k10 : x1.heap[w3.heap.size]? = some (box r1 a1 b1) := blk_below (blk_new w3 _) hb
    obtain ⟨S10, e10⟩ : ∃ q, q = w3.heap.size := ⟨_, rfl⟩
    rw [← e10] at k10 ⊢
    clear e10
    obtain ⟨p100, p101, p102, l10⟩ := cells_box k10
    have K10 := Lib.hid k10
    clear k10
    have Hx1 := Aside0.mk (below_then (below_alloc Hw3.out _) (by have := Hw3.out.size; simp; omega) hb)
    clear hb 
    clear p50 p51 p52 l5 K5
    clear p70 p71 p72 l7 K7
    clear p100 p101 p102 l10 K10
    have hI := fun W hW => frofImpl k t' W hW (by omega)
    have hS := fun W => frofSpec k t' W (by omega)
    generalize frofV k t' = FV at hI hS
    generalize frofB k t' = FB at hI hS
    go_wp2_with fail
    refine (hI _ (hG.below Hx1.out)).mono ?_
    rintro e x2 ⟨rfl, hb⟩
    have Hx2 := Aside0.mk (below_then Hx1.out Hx1.out.size hb)
    clear hb hI
    go_wp2_with fail
    refine (hS _).mono ?_
    rintro e x3 ⟨rfl, hb⟩
    have Hx3 := Aside0.mk (below_then Hx2.out Hx2.out.size hb)
    clear hb hS
    go_wp2_with fail
    refine (drawTexts A2 n2 c2 xs2 _ (HC2.out.below Hx3.out)).mono ?_
    rintro e x4 ⟨r5, a5, b5, hr5, hl5', rfl, hb⟩
    have Hx4 := Aside0.mk (below_then Hx3.out Hx3.out.size hb)
    clear hb 
    have hI := fun W hW => textsImpl r5 a5 b5 (by omega) (by omega) (by simp; omega) W hW
    have hS := fun W => textsSpec r5 a5 b5 (by omega) (by omega) (by simp; omega) W
    have hL5 : (if good r5 a5 b5 then (readP 99 1 (a5 ++ b5)).1 else []).length ≤ 99 := by
      split
      · exact readP_len _ _ _
      · simp
    generalize (if good r5 a5 b5 then (readP 99 1 (a5 ++ b5)).1 else []) = L5 at hI hS hL5
    generalize good r5 a5 b5 = G5 at hI hS
    go_wp2_with fail
    refine (hI _ (hG.below (below_alloc Hx4.out _))).mono ?_
    rintro e x5 ⟨v, rfl, hv, hb⟩
    obtain ⟨A28, c28, rfl, hl28, hC28⟩ := Kd.R_reads hv
    have HC28 := Lib.hid hC28
    clear hv hC28
    have k27 : x5.heap[x4.heap.size]? = some (box r5 a5 b5) := blk_below (blk_new x4 _) hb
    obtain ⟨S27, e27⟩ : ∃ q, q = x4.heap.size := ⟨_, rfl⟩
    rw [← e27] at k27 ⊢
    clear e27
    obtain ⟨p270, p271, p272, l27⟩ := cells_box k27
    have K27 := Lib.hid k27
    clear k27
    have Hx5 := Aside0.mk (below_then (below_alloc Hx4.out _) (by have := Hx4.out.size; simp; omega) hb)
    clear hb hI
    go_wp2_with fail
    refine (hS _).mono ?_
    rintro e x6 ⟨v, rfl, hv, hb⟩
    have HC28 := Lib.hid (Kd.C_below HC28.out hb)
    obtain ⟨A30, c30, rfl, hl30, hC30⟩ := Kd.R_reads hv
    have HC30 := Lib.hid hC30
    clear hv hC30
    have k27 : x6.heap[S27]? = some (box r5 a5 b5) := blk_below K27.out hb
    clear p270 p271 p272 l27 K27
    obtain ⟨p270, p271, p272, l27⟩ := cells_box k27
    have K27 := Lib.hid k27
    clear k27
    have Hx6 := Aside0.mk (below_then Hx5.out Hx5.out.size hb)
    clear hb hS
    clear p270 p271 p272 l27 K27
    go_wp2_with fail
    refine (drawNew A2 n2 c2 xs2 _ (HC2.out.below Hx6.out)).mono ?_
    rintro e x7 ⟨k2, hk20, hk21, rfl, hb⟩
    have HC28 := Lib.hid (Kd.C_below HC28.out hb)
    have HC30 := Lib.hid (Kd.C_below HC30.out hb)
    have Hx7 := Aside0.mk (below_then Hx6.out Hx6.out.size hb)
    clear hb 
    have hI := fun W => newImpl k2 W
    have hS := fun W => newSpec k2 W
    obtain ⟨rn, hrn⟩ := new_out k2 (decide (0 ≤ k2 ∧ k2 ≤ 4000))
    rw [hrn] at hI hS
    generalize decide (0 ≤ k2 ∧ k2 ≤ 4000) = D at hI hS
    clear hrn
    go_wp2_with fail
    refine (hI _).mono ?_
    rintro e x8 ⟨rfl, hb⟩
    have HC28 := Lib.hid (Kd.C_below HC28.out hb)
    have HC30 := Lib.hid (Kd.C_below HC30.out hb)
    have Hx8 := Aside0.mk (below_then Hx7.out Hx7.out.size hb)
    clear hb hI
    go_wp2_with fail
    refine (hS _).mono ?_
    rintro e x9 ⟨rfl, hb⟩
    have HC28 := Lib.hid (Kd.C_below (Kd.C_alloc HC28.out _) hb)
    have HC30 := Lib.hid (Kd.C_below (Kd.C_alloc HC30.out _) hb)
    have k33 : x9.heap[x8.heap.size]? = some (box rn [] []) := blk_below (blk_new x8 _) hb
    obtain ⟨S33, e33⟩ : ∃ q, q = x8.heap.size := ⟨_, rfl⟩
    rw [← e33] at k33 ⊢
    clear e33
    obtain ⟨p330, p331, p332, l33⟩ := cells_box k33
    have K33 := Lib.hid k33
    clear k33
    have Hx9 := Aside0.mk (below_then (below_alloc Hx8.out _) (by have := Hx8.out.size; simp; omega) hb)
    clear hb hS
    go_wp2_with fail
    refine (drawSync A2 n2 c2 xs2 _ (HC2.out.below (below_alloc Hx9.out _))).mono ?_
    rintro e x10 ⟨r6, a6, b6, hr6, hl6', rfl, hb⟩
    have HC28 := Lib.hid (Kd.C_below (Kd.C_alloc HC28.out _) hb)
    have HC30 := Lib.hid (Kd.C_below (Kd.C_alloc HC30.out _) hb)
    have k33 : x10.heap[S33]? = some (box rn [] []) := blk_below (blk_alloc K33.out _) hb
    clear p330 p331 p332 l33 K33
    obtain ⟨p330, p331, p332, l33⟩ := cells_box k33
    have K33 := Lib.hid k33
    clear k33
    have k35 : x10.heap[x9.heap.size]? = some (box rn [] []) := blk_below (blk_new x9 _) hb
    obtain ⟨S35, e35⟩ : ∃ q, q = x9.heap.size := ⟨_, rfl⟩
    rw [← e35] at k35 ⊢
    clear e35
    obtain ⟨p350, p351, p352, l35⟩ := cells_box k35
    have K35 := Lib.hid k35
    clear k35
    have Hx10 := Aside0.mk (below_then (below_alloc Hx9.out _) (by have := Hx9.out.size; simp; omega) hb)
    clear hb 
    have hI := fun W => syncImpl r6 a6 b6 (by omega) (by omega) W
    have hS := fun W => syncSpec r6 a6 b6 (by omega) (by omega) W
    obtain ⟨rs, as', hrs⟩ := sync_out r6 a6 b6
    rw [hrs] at hI hS
    generalize good r6 a6 b6 = G6 at hI hS
    clear hrs
    go_wp2_with fail
    refine (hI _).mono ?_
    rintro e x11 ⟨rfl, hb⟩
    have HC28 := Lib.hid (Kd.C_below (Kd.C_alloc HC28.out _) hb)
    have HC30 := Lib.hid (Kd.C_below (Kd.C_alloc HC30.out _) hb)
    have k33 : x11.heap[S33]? = some (box rn [] []) := blk_below (blk_alloc K33.out _) hb
    clear p330 p331 p332 l33 K33
    obtain ⟨p330, p331, p332, l33⟩ := cells_box k33
    have K33 := Lib.hid k33
    clear k33
    have k35 : x11.heap[S35]? = some (box rn [] []) := blk_below (blk_alloc K35.out _) hb
    clear p350 p351 p352 l35 K35
    obtain ⟨p350, p351, p352, l35⟩ := cells_box k35
    have K35 := Lib.hid k35
    clear k35
    have k37 : x11.heap[x10.heap.size]? = some (box r6 a6 b6) := blk_below (blk_new x10 _) hb
    obtain ⟨S37, e37⟩ : ∃ q, q = x10.heap.size := ⟨_, rfl⟩
    rw [← e37] at k37 ⊢
    clear e37
    obtain ⟨p370, p371, p372, l37⟩ := cells_box k37
    have K37 := Lib.hid k37
    clear k37
    have Hx11 := Aside0.mk (below_then (below_alloc Hx10.out _) (by have := Hx10.out.size; simp; omega) hb)
    clear hb hI
    go_wp2_with fail
    refine (hS _).mono ?_
    rintro e x12 ⟨rfl, hb⟩
    have HC28 := Lib.hid (Kd.C_below (Kd.C_alloc HC28.out _) hb)
    have HC30 := Lib.hid (Kd.C_below (Kd.C_alloc HC30.out _) hb)
    have k33 : x12.heap[S33]? = some (box rn [] []) := blk_below (blk_alloc K33.out _) hb
    clear p330 p331 p332 l33 K33
    obtain ⟨p330, p331, p332, l33⟩ := cells_box k33
    have K33 := Lib.hid k33
    clear k33
    have k35 : x12.heap[S35]? = some (box rn [] []) := blk_below (blk_alloc K35.out _) hb
    clear p350 p351 p352 l35 K35
    obtain ⟨p350, p351, p352, l35⟩ := cells_box k35
    have K35 := Lib.hid k35
    clear k35
    have k37 : x12.heap[S37]? = some (box r6 a6 b6) := blk_below (blk_alloc K37.out _) hb
    clear p370 p371 p372 l37 K37
    obtain ⟨p370, p371, p372, l37⟩ := cells_box k37
    have K37 := Lib.hid k37
    clear k37
    have k38 : x12.heap[x11.heap.size]? = some (box rs as' []) := blk_below (blk_new x11 _) hb
    obtain ⟨S38, e38⟩ : ∃ q, q = x11.heap.size := ⟨_, rfl⟩
    rw [← e38] at k38 ⊢
    clear e38
    obtain ⟨p380, p381, p382, l38⟩ := cells_box k38
    have K38 := Lib.hid k38
    clear k38
    have Hx12 := Aside0.mk (below_then (below_alloc Hx11.out _) (by have := Hx11.out.size; simp; omega) hb)
    clear hb hS
    have he1 := eql_store rn [] []
    have he2 := eql_store rs as' []
    have HZ := True.intro
    all_goals
      go_wp2_with fail
      refine (sameTexts L5 L5 A28 A30 c28 c30 _ (Kd.C_alloc HC28.out _) (Kd.C_alloc HC30.out _) (by omega) (by omega) hl28 hl30).mono ?_
      rw [decide_eq_true rfl]
      rintro e x13 ⟨rfl, ⟨nd, rfl⟩⟩
      go_wp2
      go_ret
      exact ⟨rfl, pw_below_drewN (below_alloc Hx12.out _) _⟩
  | true =>
    obtain ⟨er, ea, eb, eK⟩ := HP.out HGE.out.symm
    have hg : good r a b = true := HGE.out.symm
    obtain ⟨g0, g1, g2, g3⟩ := good_len hg
    have hKC : KK = putC r a b t := HK.out.trans eK
    subst er ea
    clear HP HK HGE eK
    have hLn := readP_len 99 1 (a1 ++ b)
    have hV2 : (KK = 0 → (readP 99 1 (a1 ++ b1)).1 = (readP 99 1 (a1 ++ b)).1 ++ [⟨t.toArray⟩]) ∧ (KK ≠ 0 → b1 = b) ∧ good r1 a1 b1 = true := by
      rw [eb, hKC]
      by_cases h0 : putC r1 a1 b t = 0
      · obtain ⟨p1, p2⟩ := put_texts r1 a1 b t h0 hg
        exact ⟨fun _ => p1, fun h => absurd h0 h, p2⟩
      · have hb : putL r1 a1 b t = b := by unfold putL; rw [if_neg h0]
        rw [hb]
        exact ⟨fun h => absurd h h0, fun _ => rfl, hg⟩
    obtain ⟨q1, q2, hgV⟩ := hV2
    obtain ⟨v0, v1, v2, v3⟩ := good_len hgV
    have hgS : good r1 (a1 ++ b1) [] = true := good_of v0 v1 (by simp; omega)
    have hT1 := fun W hW => textsImpl r1 a1 b (by omega) (by omega) (by simp; omega) W hW
    have hT2 := fun W hW => textsImpl r1 a1 b1 (by omega) (by omega) (by simp; omega) W hW
    have hSy := fun W => syncImpl r1 a1 b1 (by omega) (by omega) W
    have hT3 := fun W hW => textsImpl r1 (a1 ++ b1) [] (by simp; omega) (by simp) (by simp; omega) W hW
    rw [hg, if_pos rfl] at hT1
    rw [hgV, if_pos rfl] at hT2 hSy
    rw [hgS, if_pos rfl, List.append_nil] at hT3
    have hL2n := readP_len 99 1 (a1 ++ b1)
    obtain ⟨L1, e1⟩ : ∃ L, L = (readP 99 1 (a1 ++ b)).1 := ⟨_, rfl⟩
    obtain ⟨L2, e2⟩ : ∃ L, L = (readP 99 1 (a1 ++ b1)).1 := ⟨_, rfl⟩
    rw [← e1] at hT1 q1 hLn
    rw [← e2] at hT2 hT3 q1 hL2n
    have Q1 := Lib.hid q1
    have Q2 := Lib.hid q2
    clear e1 e2 q1 q2 hg hgV hgS hKC eb
    go_wp2_with fail
    refine (hT1 _ (hG.below (below_alloc Hw3.out _))).mono ?_
    rintro e y1 ⟨v, rfl, hv, hb⟩
    obtain ⟨A13, c13, rfl, hl13, hC13⟩ := Kd.R_reads hv
    have HC13 := Lib.hid hC13
    clear hv hC13
    have k5 : y1.heap[S5]? = some (box r1 a1 b) := blk_below (blk_alloc K5.out _) hb
    clear p50 p51 p52 l5 K5
    obtain ⟨p50, p51, p52, l5⟩ := cells_box k5
    have K5 := Lib.hid k5
    clear k5
    have k7 : y1.heap[S7]? = some (box r1 a1 b1) := blk_below (blk_alloc K7.out _) hb
    clear p70 p71 p72 l7 K7
    obtain ⟨p70, p71, p72, l7⟩ := cells_box k7
    have K7 := Lib.hid k7
    clear k7
    have k10 : y1.heap[w3.heap.size]? = some (box r1 a1 b1) := blk_below (blk_new w3 _) hb
    obtain ⟨S10, e10⟩ : ∃ q, q = w3.heap.size := ⟨_, rfl⟩
    rw [← e10] at k10 ⊢
    clear e10
    obtain ⟨p100, p101, p102, l10⟩ := cells_box k10
    have K10 := Lib.hid k10
    clear k10
    have Hy1 := Aside0.mk (below_then (below_alloc Hw3.out _) (by have := Hw3.out.size; simp; omega) hb)
    clear hb hT1
    clear p100 p101 p102 l10 K10
    go_wp2_with fail
    refine (hT2 _ (hG.below Hy1.out)).mono ?_
    rintro e y2 ⟨v, rfl, hv, hb⟩
    have HC13 := Lib.hid (Kd.C_below HC13.out hb)
    obtain ⟨A15, c15, rfl, hl15, hC15⟩ := Kd.R_reads hv
    have HC15t : L1.length ≤ L2.length → L2.take L1.length = L1 → Hid (Kd.C Kd.string y2 A15 L1.length L1) := fun h1 h2 => by
      have hvt := Kd.R_take hv h1
      rw [h2] at hvt
      exact Lib.hid (Kd.R_reads' hvt).2.2
    have HT15 := Lib.hid HC15t
    clear HC15t
    have HC15 := Lib.hid hC15
    clear hv hC15
    have k5 : y2.heap[S5]? = some (box r1 a1 b) := blk_below K5.out hb
    clear p50 p51 p52 l5 K5
    obtain ⟨p50, p51, p52, l5⟩ := cells_box k5
    have K5 := Lib.hid k5
    clear k5
    have k7 : y2.heap[S7]? = some (box r1 a1 b1) := blk_below K7.out hb
    clear p70 p71 p72 l7 K7
    obtain ⟨p70, p71, p72, l7⟩ := cells_box k7
    have K7 := Lib.hid k7
    clear k7
    have Hy2 := Aside0.mk (below_then Hy1.out Hy1.out.size hb)
    clear hb hT2
    go_wp2_with fail
    refine (hSy _).mono ?_
    rintro e y3 ⟨rfl, hb⟩
    have HC13 := Lib.hid (Kd.C_below HC13.out hb)
    have HC15 := Lib.hid (Kd.C_below HC15.out hb)
    have k5 : y3.heap[S5]? = some (box r1 a1 b) := blk_below K5.out hb
    clear p50 p51 p52 l5 K5
    obtain ⟨p50, p51, p52, l5⟩ := cells_box k5
    have K5 := Lib.hid k5
    clear k5
    have k7 : y3.heap[S7]? = some (box r1 a1 b1) := blk_below K7.out hb
    clear p70 p71 p72 l7 K7
    obtain ⟨p70, p71, p72, l7⟩ := cells_box k7
    have K7 := Lib.hid k7
    clear k7
    have Hy3 := Aside0.mk (below_then Hy2.out Hy2.out.size hb)
    have HT15 : Hid (L1.length ≤ L2.length → L2.take L1.length = L1 → Kd.C Kd.string y3 A15 L1.length L1) := Lib.hid (fun h1 h2 => Kd.C_below (HT15.out h1 h2).out hb)
    clear hb hSy
    go_wp2_with fail
    refine (hT3 _ (hG.below (below_alloc Hy3.out _))).mono ?_
    rintro e y4 ⟨v, rfl, hv, hb⟩
    have HC13 := Lib.hid (Kd.C_below (Kd.C_alloc HC13.out _) hb)
    have HC15 := Lib.hid (Kd.C_below (Kd.C_alloc HC15.out _) hb)
    obtain ⟨A19, c19, rfl, hl19, hC19⟩ := Kd.R_reads hv
    have HC19 := Lib.hid hC19
    clear hv hC19
    have k5 : y4.heap[S5]? = some (box r1 a1 b) := blk_below (blk_alloc K5.out _) hb
    clear p50 p51 p52 l5 K5
    obtain ⟨p50, p51, p52, l5⟩ := cells_box k5
    have K5 := Lib.hid k5
    clear k5
    have k7 : y4.heap[S7]? = some (box r1 a1 b1) := blk_below (blk_alloc K7.out _) hb
    clear p70 p71 p72 l7 K7
    obtain ⟨p70, p71, p72, l7⟩ := cells_box k7
    have K7 := Lib.hid k7
    clear k7
    have k17 : y4.heap[y3.heap.size]? = some (box r1 (a1 ++ b1) []) := blk_below (blk_new y3 _) hb
    obtain ⟨S17, e17⟩ : ∃ q, q = y3.heap.size := ⟨_, rfl⟩
    rw [← e17] at k17 ⊢
    clear e17
    obtain ⟨p170, p171, p172, l17⟩ := cells_box k17
    have K17 := Lib.hid k17
    clear k17
    have Hy4 := Aside0.mk (below_then (below_alloc Hy3.out _) (by have := Hy3.out.size; simp; omega) hb)
    have HT15 : Hid (L1.length ≤ L2.length → L2.take L1.length = L1 → Kd.C Kd.string y4 A15 L1.length L1) := Lib.hid (fun h1 h2 => Kd.C_below (Kd.C_alloc (HT15.out h1 h2) _) hb)
    clear hb hT3
    by_cases h0 : KK = 0
    · have hL := Q1.out h0
      have hl2 : L2.length = L1.length + 1 := by rw [hL]; simp
      have hc := HT15.out (by omega) (by rw [hL]; simp)
      have HCt := Lib.hid hc
      have hd1 : ((L2.length : Int) != (L1.length : Int) + 1) = false := by simp; omega
      obtain ⟨ad, eA, hx⟩ := cellSt HC15.out (Below.refl _ _) L1.length (by omega)
      have hx2 : L2.getD L1.length ByteArray.empty = ⟨t.toArray⟩ := by rw [hL]; simp
      rw [hx2] at hx
      have HX := Lib.hid hx
      have HLL := Lib.hid hl2
      have hlt : L1.length < L2.length := by omega
      subst eA
      subst h0
      clear hL hc hl2 Q1 Q2 HT15 hx2 hx
      go_wp2_with fail
      refine (sameTexts L2 L2 (some ad) A19 c15 c19 _ HC15.out HC19.out (by omega) (by omega) hl15 hl19).mono ?_
      rw [decide_eq_true rfl]
      rintro e y5 ⟨rfl, ⟨nd1, rfl⟩⟩
      have hx := HX.out
      go_wp2_with fail
      refine (sameTexts L1 L1 (some ad) A13 c15 c13 _ (Kd.C_drewN HCt.out _) (Kd.C_drewN HC13.out _) (by omega) (by omega) (by omega) hl13).mono ?_
      rw [decide_eq_true rfl]
      rintro e y6 ⟨rfl, ⟨nd2, rfl⟩⟩
      have HBT := Aside0.mk (pw_below_drewN Hy4.out (nd1 + nd2))
      clear p50 p51 p52 l5 K5 p70 p71 p72 l7 K7 p170 p171 p172 l17 K17 HC13 HC15 HC19
      go_wp2_with fail
      refine (drawFrame A2 n2 c2 xs2 _ (HC2.out.below HBT.out)).mono ?_
      rintro e x1 ⟨k, t', hk0, hk1, ht', rfl, hb⟩
      have Hx1 := Aside0.mk (below_then HBT.out HBT.out.size hb)
      clear hb 
      have hI := fun W hW => frofImpl k t' W hW (by omega)
      have hS := fun W => frofSpec k t' W (by omega)
      generalize frofV k t' = FV at hI hS
      generalize frofB k t' = FB at hI hS
      go_wp2_with fail
      refine (hI _ (hG.below Hx1.out)).mono ?_
      rintro e x2 ⟨rfl, hb⟩
      have Hx2 := Aside0.mk (below_then Hx1.out Hx1.out.size hb)
      clear hb hI
      go_wp2_with fail
      refine (hS _).mono ?_
      rintro e x3 ⟨rfl, hb⟩
      have Hx3 := Aside0.mk (below_then Hx2.out Hx2.out.size hb)
      clear hb hS
      go_wp2_with fail
      refine (drawTexts A2 n2 c2 xs2 _ (HC2.out.below Hx3.out)).mono ?_
      rintro e x4 ⟨r5, a5, b5, hr5, hl5', rfl, hb⟩
      have Hx4 := Aside0.mk (below_then Hx3.out Hx3.out.size hb)
      clear hb 
      have hI := fun W hW => textsImpl r5 a5 b5 (by omega) (by omega) (by simp; omega) W hW
      have hS := fun W => textsSpec r5 a5 b5 (by omega) (by omega) (by simp; omega) W
      have hL5 : (if good r5 a5 b5 then (readP 99 1 (a5 ++ b5)).1 else []).length ≤ 99 := by
        split
        · exact readP_len _ _ _
        · simp
      generalize (if good r5 a5 b5 then (readP 99 1 (a5 ++ b5)).1 else []) = L5 at hI hS hL5
      generalize good r5 a5 b5 = G5 at hI hS
      go_wp2_with fail
      refine (hI _ (hG.below (below_alloc Hx4.out _))).mono ?_
      rintro e x5 ⟨v, rfl, hv, hb⟩
      obtain ⟨A28, c28, rfl, hl28, hC28⟩ := Kd.R_reads hv
      have HC28 := Lib.hid hC28
      clear hv hC28
      have k27 : x5.heap[x4.heap.size]? = some (box r5 a5 b5) := blk_below (blk_new x4 _) hb
      obtain ⟨S27, e27⟩ : ∃ q, q = x4.heap.size := ⟨_, rfl⟩
      rw [← e27] at k27 ⊢
      clear e27
      obtain ⟨p270, p271, p272, l27⟩ := cells_box k27
      have K27 := Lib.hid k27
      clear k27
      have Hx5 := Aside0.mk (below_then (below_alloc Hx4.out _) (by have := Hx4.out.size; simp; omega) hb)
      clear hb hI
      go_wp2_with fail
      refine (hS _).mono ?_
      rintro e x6 ⟨v, rfl, hv, hb⟩
      have HC28 := Lib.hid (Kd.C_below HC28.out hb)
      obtain ⟨A30, c30, rfl, hl30, hC30⟩ := Kd.R_reads hv
      have HC30 := Lib.hid hC30
      clear hv hC30
      have k27 : x6.heap[S27]? = some (box r5 a5 b5) := blk_below K27.out hb
      clear p270 p271 p272 l27 K27
      obtain ⟨p270, p271, p272, l27⟩ := cells_box k27
      have K27 := Lib.hid k27
      clear k27
      have Hx6 := Aside0.mk (below_then Hx5.out Hx5.out.size hb)
      clear hb hS
      clear p270 p271 p272 l27 K27
      go_wp2_with fail
      refine (drawNew A2 n2 c2 xs2 _ (HC2.out.below Hx6.out)).mono ?_
      rintro e x7 ⟨k2, hk20, hk21, rfl, hb⟩
      have HC28 := Lib.hid (Kd.C_below HC28.out hb)
      have HC30 := Lib.hid (Kd.C_below HC30.out hb)
      have Hx7 := Aside0.mk (below_then Hx6.out Hx6.out.size hb)
      clear hb 
      have hI := fun W => newImpl k2 W
      have hS := fun W => newSpec k2 W
      obtain ⟨rn, hrn⟩ := new_out k2 (decide (0 ≤ k2 ∧ k2 ≤ 4000))
      rw [hrn] at hI hS
      generalize decide (0 ≤ k2 ∧ k2 ≤ 4000) = D at hI hS
      clear hrn
      go_wp2_with fail
      refine (hI _).mono ?_
      rintro e x8 ⟨rfl, hb⟩
      have HC28 := Lib.hid (Kd.C_below HC28.out hb)
      have HC30 := Lib.hid (Kd.C_below HC30.out hb)
      have Hx8 := Aside0.mk (below_then Hx7.out Hx7.out.size hb)
      clear hb hI
      go_wp2_with fail
      refine (hS _).mono ?_
      rintro e x9 ⟨rfl, hb⟩
      have HC28 := Lib.hid (Kd.C_below (Kd.C_alloc HC28.out _) hb)
      have HC30 := Lib.hid (Kd.C_below (Kd.C_alloc HC30.out _) hb)
      have k33 : x9.heap[x8.heap.size]? = some (box rn [] []) := blk_below (blk_new x8 _) hb
      obtain ⟨S33, e33⟩ : ∃ q, q = x8.heap.size := ⟨_, rfl⟩
      rw [← e33] at k33 ⊢
      clear e33
      obtain ⟨p330, p331, p332, l33⟩ := cells_box k33
      have K33 := Lib.hid k33
      clear k33
      have Hx9 := Aside0.mk (below_then (below_alloc Hx8.out _) (by have := Hx8.out.size; simp; omega) hb)
      clear hb hS
      go_wp2_with fail
      refine (drawSync A2 n2 c2 xs2 _ (HC2.out.below (below_alloc Hx9.out _))).mono ?_
      rintro e x10 ⟨r6, a6, b6, hr6, hl6', rfl, hb⟩
      have HC28 := Lib.hid (Kd.C_below (Kd.C_alloc HC28.out _) hb)
      have HC30 := Lib.hid (Kd.C_below (Kd.C_alloc HC30.out _) hb)
      have k33 : x10.heap[S33]? = some (box rn [] []) := blk_below (blk_alloc K33.out _) hb
      clear p330 p331 p332 l33 K33
      obtain ⟨p330, p331, p332, l33⟩ := cells_box k33
      have K33 := Lib.hid k33
      clear k33
      have k35 : x10.heap[x9.heap.size]? = some (box rn [] []) := blk_below (blk_new x9 _) hb
      obtain ⟨S35, e35⟩ : ∃ q, q = x9.heap.size := ⟨_, rfl⟩
      rw [← e35] at k35 ⊢
      clear e35
      obtain ⟨p350, p351, p352, l35⟩ := cells_box k35
      have K35 := Lib.hid k35
      clear k35
      have Hx10 := Aside0.mk (below_then (below_alloc Hx9.out _) (by have := Hx9.out.size; simp; omega) hb)
      clear hb 
      have hI := fun W => syncImpl r6 a6 b6 (by omega) (by omega) W
      have hS := fun W => syncSpec r6 a6 b6 (by omega) (by omega) W
      obtain ⟨rs, as', hrs⟩ := sync_out r6 a6 b6
      rw [hrs] at hI hS
      generalize good r6 a6 b6 = G6 at hI hS
      clear hrs
      go_wp2_with fail
      refine (hI _).mono ?_
      rintro e x11 ⟨rfl, hb⟩
      have HC28 := Lib.hid (Kd.C_below (Kd.C_alloc HC28.out _) hb)
      have HC30 := Lib.hid (Kd.C_below (Kd.C_alloc HC30.out _) hb)
      have k33 : x11.heap[S33]? = some (box rn [] []) := blk_below (blk_alloc K33.out _) hb
      clear p330 p331 p332 l33 K33
      obtain ⟨p330, p331, p332, l33⟩ := cells_box k33
      have K33 := Lib.hid k33
      clear k33
      have k35 : x11.heap[S35]? = some (box rn [] []) := blk_below (blk_alloc K35.out _) hb
      clear p350 p351 p352 l35 K35
      obtain ⟨p350, p351, p352, l35⟩ := cells_box k35
      have K35 := Lib.hid k35
      clear k35
      have k37 : x11.heap[x10.heap.size]? = some (box r6 a6 b6) := blk_below (blk_new x10 _) hb
      obtain ⟨S37, e37⟩ : ∃ q, q = x10.heap.size := ⟨_, rfl⟩
      rw [← e37] at k37 ⊢
      clear e37
      obtain ⟨p370, p371, p372, l37⟩ := cells_box k37
      have K37 := Lib.hid k37
      clear k37
      have Hx11 := Aside0.mk (below_then (below_alloc Hx10.out _) (by have := Hx10.out.size; simp; omega) hb)
      clear hb hI
      go_wp2_with fail
      refine (hS _).mono ?_
      rintro e x12 ⟨rfl, hb⟩
      have HC28 := Lib.hid (Kd.C_below (Kd.C_alloc HC28.out _) hb)
      have HC30 := Lib.hid (Kd.C_below (Kd.C_alloc HC30.out _) hb)
      have k33 : x12.heap[S33]? = some (box rn [] []) := blk_below (blk_alloc K33.out _) hb
      clear p330 p331 p332 l33 K33
      obtain ⟨p330, p331, p332, l33⟩ := cells_box k33
      have K33 := Lib.hid k33
      clear k33
      have k35 : x12.heap[S35]? = some (box rn [] []) := blk_below (blk_alloc K35.out _) hb
      clear p350 p351 p352 l35 K35
      obtain ⟨p350, p351, p352, l35⟩ := cells_box k35
      have K35 := Lib.hid k35
      clear k35
      have k37 : x12.heap[S37]? = some (box r6 a6 b6) := blk_below (blk_alloc K37.out _) hb
      clear p370 p371 p372 l37 K37
      obtain ⟨p370, p371, p372, l37⟩ := cells_box k37
      have K37 := Lib.hid k37
      clear k37
      have k38 : x12.heap[x11.heap.size]? = some (box rs as' []) := blk_below (blk_new x11 _) hb
      obtain ⟨S38, e38⟩ : ∃ q, q = x11.heap.size := ⟨_, rfl⟩
      rw [← e38] at k38 ⊢
      clear e38
      obtain ⟨p380, p381, p382, l38⟩ := cells_box k38
      have K38 := Lib.hid k38
      clear k38
      have Hx12 := Aside0.mk (below_then (below_alloc Hx11.out _) (by have := Hx11.out.size; simp; omega) hb)
      clear hb hS
      have he1 := eql_store rn [] []
      have he2 := eql_store rs as' []
      have HZ := True.intro
      all_goals
        go_wp2_with fail
        refine (sameTexts L5 L5 A28 A30 c28 c30 _ (Kd.C_alloc HC28.out _) (Kd.C_alloc HC30.out _) (by omega) (by omega) hl28 hl30).mono ?_
        rw [decide_eq_true rfl]
        rintro e x13 ⟨rfl, ⟨nd, rfl⟩⟩
        go_wp2
        go_ret
        exact ⟨rfl, pw_below_drewN (below_alloc Hx12.out _) _⟩
    · have hb1 := Q2.out h0
      subst hb1
      have hk : (0 : Int) < (KK : Int) := by omega
      have hk2 : ((KK : Int) == 0) = false := by simp; omega
      clear Q1 Q2 HT15 h0
      go_wp2_with fail
      refine (sameTexts L2 L2 A15 A19 c15 c19 _ HC15.out HC19.out (by omega) (by omega) hl15 hl19).mono ?_
      rw [decide_eq_true rfl]
      rintro e y5 ⟨rfl, ⟨nd1, rfl⟩⟩
      go_wp2_with fail
      have HBT := Aside0.mk (pw_below_drewN Hy4.out nd1)
      clear p50 p51 p52 l5 K5 p70 p71 p72 l7 K7 p170 p171 p172 l17 K17 HC13 HC15 HC19
      go_wp2_with fail
      refine (drawFrame A2 n2 c2 xs2 _ (HC2.out.below HBT.out)).mono ?_
      rintro e x1 ⟨k, t', hk0, hk1, ht', rfl, hb⟩
      have Hx1 := Aside0.mk (below_then HBT.out HBT.out.size hb)
      clear hb 
      have hI := fun W hW => frofImpl k t' W hW (by omega)
      have hS := fun W => frofSpec k t' W (by omega)
      generalize frofV k t' = FV at hI hS
      generalize frofB k t' = FB at hI hS
      go_wp2_with fail
      refine (hI _ (hG.below Hx1.out)).mono ?_
      rintro e x2 ⟨rfl, hb⟩
      have Hx2 := Aside0.mk (below_then Hx1.out Hx1.out.size hb)
      clear hb hI
      go_wp2_with fail
      refine (hS _).mono ?_
      rintro e x3 ⟨rfl, hb⟩
      have Hx3 := Aside0.mk (below_then Hx2.out Hx2.out.size hb)
      clear hb hS
      go_wp2_with fail
      refine (drawTexts A2 n2 c2 xs2 _ (HC2.out.below Hx3.out)).mono ?_
      rintro e x4 ⟨r5, a5, b5, hr5, hl5', rfl, hb⟩
      have Hx4 := Aside0.mk (below_then Hx3.out Hx3.out.size hb)
      clear hb 
      have hI := fun W hW => textsImpl r5 a5 b5 (by omega) (by omega) (by simp; omega) W hW
      have hS := fun W => textsSpec r5 a5 b5 (by omega) (by omega) (by simp; omega) W
      have hL5 : (if good r5 a5 b5 then (readP 99 1 (a5 ++ b5)).1 else []).length ≤ 99 := by
        split
        · exact readP_len _ _ _
        · simp
      generalize (if good r5 a5 b5 then (readP 99 1 (a5 ++ b5)).1 else []) = L5 at hI hS hL5
      generalize good r5 a5 b5 = G5 at hI hS
      go_wp2_with fail
      refine (hI _ (hG.below (below_alloc Hx4.out _))).mono ?_
      rintro e x5 ⟨v, rfl, hv, hb⟩
      obtain ⟨A28, c28, rfl, hl28, hC28⟩ := Kd.R_reads hv
      have HC28 := Lib.hid hC28
      clear hv hC28
      have k27 : x5.heap[x4.heap.size]? = some (box r5 a5 b5) := blk_below (blk_new x4 _) hb
      obtain ⟨S27, e27⟩ : ∃ q, q = x4.heap.size := ⟨_, rfl⟩
      rw [← e27] at k27 ⊢
      clear e27
      obtain ⟨p270, p271, p272, l27⟩ := cells_box k27
      have K27 := Lib.hid k27
      clear k27
      have Hx5 := Aside0.mk (below_then (below_alloc Hx4.out _) (by have := Hx4.out.size; simp; omega) hb)
      clear hb hI
      go_wp2_with fail
      refine (hS _).mono ?_
      rintro e x6 ⟨v, rfl, hv, hb⟩
      have HC28 := Lib.hid (Kd.C_below HC28.out hb)
      obtain ⟨A30, c30, rfl, hl30, hC30⟩ := Kd.R_reads hv
      have HC30 := Lib.hid hC30
      clear hv hC30
      have k27 : x6.heap[S27]? = some (box r5 a5 b5) := blk_below K27.out hb
      clear p270 p271 p272 l27 K27
      obtain ⟨p270, p271, p272, l27⟩ := cells_box k27
      have K27 := Lib.hid k27
      clear k27
      have Hx6 := Aside0.mk (below_then Hx5.out Hx5.out.size hb)
      clear hb hS
      clear p270 p271 p272 l27 K27
      go_wp2_with fail
      refine (drawNew A2 n2 c2 xs2 _ (HC2.out.below Hx6.out)).mono ?_
      rintro e x7 ⟨k2, hk20, hk21, rfl, hb⟩
      have HC28 := Lib.hid (Kd.C_below HC28.out hb)
      have HC30 := Lib.hid (Kd.C_below HC30.out hb)
      have Hx7 := Aside0.mk (below_then Hx6.out Hx6.out.size hb)
      clear hb 
      have hI := fun W => newImpl k2 W
      have hS := fun W => newSpec k2 W
      obtain ⟨rn, hrn⟩ := new_out k2 (decide (0 ≤ k2 ∧ k2 ≤ 4000))
      rw [hrn] at hI hS
      generalize decide (0 ≤ k2 ∧ k2 ≤ 4000) = D at hI hS
      clear hrn
      go_wp2_with fail
      refine (hI _).mono ?_
      rintro e x8 ⟨rfl, hb⟩
      have HC28 := Lib.hid (Kd.C_below HC28.out hb)
      have HC30 := Lib.hid (Kd.C_below HC30.out hb)
      have Hx8 := Aside0.mk (below_then Hx7.out Hx7.out.size hb)
      clear hb hI
      go_wp2_with fail
      refine (hS _).mono ?_
      rintro e x9 ⟨rfl, hb⟩
      have HC28 := Lib.hid (Kd.C_below (Kd.C_alloc HC28.out _) hb)
      have HC30 := Lib.hid (Kd.C_below (Kd.C_alloc HC30.out _) hb)
      have k33 : x9.heap[x8.heap.size]? = some (box rn [] []) := blk_below (blk_new x8 _) hb
      obtain ⟨S33, e33⟩ : ∃ q, q = x8.heap.size := ⟨_, rfl⟩
      rw [← e33] at k33 ⊢
      clear e33
      obtain ⟨p330, p331, p332, l33⟩ := cells_box k33
      have K33 := Lib.hid k33
      clear k33
      have Hx9 := Aside0.mk (below_then (below_alloc Hx8.out _) (by have := Hx8.out.size; simp; omega) hb)
      clear hb hS
      go_wp2_with fail
      refine (drawSync A2 n2 c2 xs2 _ (HC2.out.below (below_alloc Hx9.out _))).mono ?_
      rintro e x10 ⟨r6, a6, b6, hr6, hl6', rfl, hb⟩
      have HC28 := Lib.hid (Kd.C_below (Kd.C_alloc HC28.out _) hb)
      have HC30 := Lib.hid (Kd.C_below (Kd.C_alloc HC30.out _) hb)
      have k33 : x10.heap[S33]? = some (box rn [] []) := blk_below (blk_alloc K33.out _) hb
      clear p330 p331 p332 l33 K33
      obtain ⟨p330, p331, p332, l33⟩ := cells_box k33
      have K33 := Lib.hid k33
      clear k33
      have k35 : x10.heap[x9.heap.size]? = some (box rn [] []) := blk_below (blk_new x9 _) hb
      obtain ⟨S35, e35⟩ : ∃ q, q = x9.heap.size := ⟨_, rfl⟩
      rw [← e35] at k35 ⊢
      clear e35
      obtain ⟨p350, p351, p352, l35⟩ := cells_box k35
      have K35 := Lib.hid k35
      clear k35
      have Hx10 := Aside0.mk (below_then (below_alloc Hx9.out _) (by have := Hx9.out.size; simp; omega) hb)
      clear hb 
      have hI := fun W => syncImpl r6 a6 b6 (by omega) (by omega) W
      have hS := fun W => syncSpec r6 a6 b6 (by omega) (by omega) W
      obtain ⟨rs, as', hrs⟩ := sync_out r6 a6 b6
      rw [hrs] at hI hS
      generalize good r6 a6 b6 = G6 at hI hS
      clear hrs
      go_wp2_with fail
      refine (hI _).mono ?_
      rintro e x11 ⟨rfl, hb⟩
      have HC28 := Lib.hid (Kd.C_below (Kd.C_alloc HC28.out _) hb)
      have HC30 := Lib.hid (Kd.C_below (Kd.C_alloc HC30.out _) hb)
      have k33 : x11.heap[S33]? = some (box rn [] []) := blk_below (blk_alloc K33.out _) hb
      clear p330 p331 p332 l33 K33
      obtain ⟨p330, p331, p332, l33⟩ := cells_box k33
      have K33 := Lib.hid k33
      clear k33
      have k35 : x11.heap[S35]? = some (box rn [] []) := blk_below (blk_alloc K35.out _) hb
      clear p350 p351 p352 l35 K35
      obtain ⟨p350, p351, p352, l35⟩ := cells_box k35
      have K35 := Lib.hid k35
      clear k35
      have k37 : x11.heap[x10.heap.size]? = some (box r6 a6 b6) := blk_below (blk_new x10 _) hb
      obtain ⟨S37, e37⟩ : ∃ q, q = x10.heap.size := ⟨_, rfl⟩
      rw [← e37] at k37 ⊢
      clear e37
      obtain ⟨p370, p371, p372, l37⟩ := cells_box k37
      have K37 := Lib.hid k37
      clear k37
      have Hx11 := Aside0.mk (below_then (below_alloc Hx10.out _) (by have := Hx10.out.size; simp; omega) hb)
      clear hb hI
      go_wp2_with fail
      refine (hS _).mono ?_
      rintro e x12 ⟨rfl, hb⟩
      have HC28 := Lib.hid (Kd.C_below (Kd.C_alloc HC28.out _) hb)
      have HC30 := Lib.hid (Kd.C_below (Kd.C_alloc HC30.out _) hb)
      have k33 : x12.heap[S33]? = some (box rn [] []) := blk_below (blk_alloc K33.out _) hb
      clear p330 p331 p332 l33 K33
      obtain ⟨p330, p331, p332, l33⟩ := cells_box k33
      have K33 := Lib.hid k33
      clear k33
      have k35 : x12.heap[S35]? = some (box rn [] []) := blk_below (blk_alloc K35.out _) hb
      clear p350 p351 p352 l35 K35
      obtain ⟨p350, p351, p352, l35⟩ := cells_box k35
      have K35 := Lib.hid k35
      clear k35
      have k37 : x12.heap[S37]? = some (box r6 a6 b6) := blk_below (blk_alloc K37.out _) hb
      clear p370 p371 p372 l37 K37
      obtain ⟨p370, p371, p372, l37⟩ := cells_box k37
      have K37 := Lib.hid k37
      clear k37
      have k38 : x12.heap[x11.heap.size]? = some (box rs as' []) := blk_below (blk_new x11 _) hb
      obtain ⟨S38, e38⟩ : ∃ q, q = x11.heap.size := ⟨_, rfl⟩
      rw [← e38] at k38 ⊢
      clear e38
      obtain ⟨p380, p381, p382, l38⟩ := cells_box k38
      have K38 := Lib.hid k38
      clear k38
      have Hx12 := Aside0.mk (below_then (below_alloc Hx11.out _) (by have := Hx11.out.size; simp; omega) hb)
      clear hb hS
      have he1 := eql_store rn [] []
      have he2 := eql_store rs as' []
      have HZ := True.intro
      all_goals
        go_wp2_with fail
        refine (sameTexts L5 L5 A28 A30 c28 c30 _ (Kd.C_alloc HC28.out _) (Kd.C_alloc HC30.out _) (by omega) (by omega) hl28 hl30).mono ?_
        rw [decide_eq_true rfl]
        rintro e x13 ⟨rfl, ⟨nd, rfl⟩⟩
        go_wp2
        go_ret
        exact ⟨rfl, pw_below_drewN (below_alloc Hx12.out _) _⟩
end Go.Proofs.YtjhaaaljlpcnaaaDoor.V
