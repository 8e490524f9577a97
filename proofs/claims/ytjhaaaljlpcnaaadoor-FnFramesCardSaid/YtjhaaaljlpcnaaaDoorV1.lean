/- The statement FnFrames as a walk: every code and more; the library's variables as the program lays them. -/
import Derived.Test.YtjhaaaljlpcnaaaDoorV0
namespace Go.Proofs.YtjhaaaljlpcnaaaDoor.V
set_option linter.unusedVariables false
set_option linter.unusedSimpArgs false
open Go.RowKit Go.Proofs.YtjhaaaljlpcnaaaDoorW.PrintWords Go.Proofs.YtjhaaaljlpcnaaaDoor.S Go.Proofs.YtjhaaaljlpcnaaaDoor.U Go.Proofs.YtjhaaaljlpcnaaaDoor.X

abbrev box (r : Int) (a b : List UInt8) : Obj := .cells #[.int .i64 r, .string ⟨a.toArray⟩, .string ⟨b.toArray⟩] 31 (0, 0)
theorem cells_box {W : World} {g : Nat} {r : Int} {a b : List UInt8} (h : W.heap[g]? = some (box r a b)) : W.cell? ⟨g, 0, none⟩ = some (.int .i64 r) ∧ W.cell? ⟨g, 1, none⟩ = some (.string ⟨a.toArray⟩) ∧ W.cell? ⟨g, 2, none⟩ = some (.string ⟨b.toArray⟩) ∧ g < W.heap.size :=
  ⟨blk_cell h 0, blk_cell h 1, blk_cell h 2, blk_lt h⟩
/-- What a crash gives, as a store written out. -/
theorem crash_out (r : Int) (a b : List UInt8) (k : Int) : ∃ (r1 : Int) (a1 b1 : List UInt8), crashV r a b k = S.store r1 a1 b1 ∧ (crashB r a b k = true → r1 = r ∧ a1 = a ++ b.take k.toNat ∧ b1 = [] ∧ good r a b = true ∧ 0 ≤ k ∧ k ≤ (b.length : Int)) := by
  unfold crashV
  split
  · rename_i h
    refine ⟨r, a ++ b.take k.toNat, [], rfl, fun _ => ?_⟩
    simp only [crashB, Bool.and_eq_true, decide_eq_true_eq] at h
    exact ⟨rfl, rfl, rfl, h.1, h.2.1, h.2.2⟩
  · rename_i h
    exact ⟨0, [], [], rfl, fun h' => absurd h' h⟩
theorem mend_out (r : Int) (a b : List UInt8) : ∃ (r1 : Int) (a1 b1 : List UInt8), mendV r a b = S.store r1 a1 b1 ∧ (mendB r a b = true → r1 = r ∧ a1 = a.take (readP 99 1 a).2 ∧ b1 = []) := by
  unfold mendV
  split
  · exact ⟨r, _, [], rfl, fun _ => ⟨rfl, rfl, rfl⟩⟩
  · rename_i h
    exact ⟨0, [], [], rfl, fun h' => absurd h' h⟩


theorem good_len {r : Int} {a b : List UInt8} (h : good r a b = true) : 0 ≤ r ∧ r ≤ 4000 ∧ a.length + b.length ≤ 4000 ∧ ((a.length : Int) + b.length ≤ r) := by
  have := of_decide_eq_true h
  omega
theorem good_of {r : Int} {a b : List UInt8} (h0 : 0 ≤ r) (h1 : r ≤ 4000) (h2 : (a.length : Int) + b.length ≤ r) : good r a b = true := decide_eq_true ⟨h0, h1, h2⟩

def Fine (w : World) (e : Ending) (w' : World) : Prop := e = .returned (.bool true) ∧ Below w.heap.size w w'

set_option maxRecDepth 100000 in
theorem frames_big (A A2 : Option Addr) (n c n2 c2 : Nat) (w : World) (hn : n ≤ 140737488351232) (hm : n2 ≤ 140737488351232) (h : 1048576 < n + n2) :
    Calls Tryd.prog 4 #[.slice A n c, .slice A2 n2 c2] w (Fine w) := by
  have hb := S.big A A2 n n2 c c2 hn hm
  rw [decide_eq_true h] at hb
  go_enter Tryd.func4, Tryd.ntmps4
  go_wp2_with fail
  refine (hb _).mono ?_
  rintro e w1 ⟨rfl, rfl⟩
  go_wp2
  go_ret
  exact ⟨rfl, Below.refl _ _⟩

set_option maxHeartbeats 4000000 in
set_option maxRecDepth 100000 in
theorem frames_law (A A2 : Option Addr) (n c n2 c2 : Nat) (xs xs2 : List Int) (w : World) (hG : GL w) (hc1 : U.Code w A n xs) (hc2 : U.Code w A2 n2 xs2) (hn : n ≤ 140737488351232) (hm : n2 ≤ 140737488351232) (h : ¬ 1048576 < n + n2) :
    Calls Tryd.prog 4 #[.slice A n c, .slice A2 n2 c2] w (Fine w) := by
  have hb := S.big A A2 n n2 c c2 hn hm
  rw [decide_eq_false h] at hb
  have HC1 := Lib.hid hc1
  have HC2 := Lib.hid hc2
  clear hc1 hc2 h hn hm
  go_enter Tryd.func4, Tryd.ntmps4
  go_wp2_with fail
  refine (hb _).mono ?_
  rintro e w0 ⟨rfl, rfl⟩
  clear hb
  go_wp2_with fail
  refine (drawCrash A n c xs _ HC1.out).mono ?_
  rintro e w1 ⟨r, a, b, k, hr, hl, rfl, hb1⟩
  have HB1 := Aside0.mk hb1
  obtain ⟨r1, a1, b1, hV, hC⟩ := crash_out r a b k
  have hI := fun W => crashImpl r a b k (by omega) (by omega) W
  have hS := fun W => crashSpec r a b k (by omega) (by omega) W
  rw [hV] at hI hS
  obtain ⟨C, hCe⟩ : ∃ C, C = crashB r a b k := ⟨_, rfl⟩
  rw [← hCe] at hC hI hS
  have HC := Lib.hid hC
  clear hV hCe hC hb1
  go_wp2_with fail
  refine (hI _).mono ?_
  rintro e w2 ⟨rfl, hb2⟩
  have hk5 : w2.heap[w1.heap.size]? = some (box r a b) := blk_below (blk_new w1 _) hb2
  obtain ⟨c50, c51, c52, l5⟩ := cells_box hk5
  have HB2 := Aside0.mk (below_then (below_alloc HB1.out _) (by have := HB1.out.size; simp; omega) hb2)
  have HK5 := Lib.hid hk5
  clear hI hb2 hk5
  go_wp2_with fail
  refine (hS _).mono ?_
  rintro e w3 ⟨rfl, hb3⟩
  have hk5 : w3.heap[w1.heap.size]? = some (box r a b) := blk_below (blk_alloc HK5.out _) hb3
  have hk7 : w3.heap[w2.heap.size]? = some (box r1 a1 b1) := blk_below (blk_new w2 _) hb3
  have HB3 := Aside0.mk (below_then (below_alloc HB2.out _) (by have := HB2.out.size; simp; omega) hb3)
  clear hS hb3 c50 c51 c52 l5 HK5
  obtain ⟨S5, e5⟩ : ∃ q, q = w1.heap.size := ⟨_, rfl⟩
  obtain ⟨S7, e7⟩ : ∃ q, q = w2.heap.size := ⟨_, rfl⟩
  rw [← e5] at hk5 ⊢
  rw [← e7] at hk7 ⊢
  clear e5 e7
  obtain ⟨c50, c51, c52, l5⟩ := cells_box hk5
  obtain ⟨c70, c71, c72, l7⟩ := cells_box hk7
  go_upto_region 6 with (fail)
  obtain ⟨W, hW⟩ : ∃ W, W = w3.alloc (box r1 a1 b1) := ⟨_, rfl⟩
  have hw5 : W.heap[S5]? = some (box r a b) := by rw [hW]; exact blk_alloc hk5 _
  have hw7 : W.heap[S7]? = some (box r1 a1 b1) := by rw [hW]; exact blk_alloc hk7 _
  have hw9 : W.heap[w3.heap.size]? = some (box r1 a1 b1) := by rw [hW]; exact blk_new _ _
  have HBW : Aside0 (Below w.heap.size w W) := by rw [hW]; exact ⟨below_alloc HB3.out _⟩
  rw [← hW]
  obtain ⟨S9, e9⟩ : ∃ q, q = w3.heap.size := ⟨_, rfl⟩
  rw [← e9] at hw9 ⊢
  clear e9 hW HB1 HB2 HB3 hk5 hk7 c50 c51 c52 c70 c71 c72 l5 l7
  obtain ⟨c50, c51, c52, l5⟩ := cells_box hw5
  obtain ⟨c70, c71, c72, l7⟩ := cells_box hw7
  obtain ⟨c90, c91, c92, l9⟩ := cells_box hw9
  have H5 := Lib.hid hw5
  have H7 := Lib.hid hw7
  have H9 := Lib.hid hw9
  clear hw5 hw7 hw9
  have hne := neq_store r1 a1 b1
  have hGI := fun W => goodImpl r a b (by omega) (by omega) W
  have hGS := fun W => goodSpec r a b (by omega) (by omega) W
  have hGG : ∀ W, (binOp .neq 4 (.bool (good r a b)) (.bool (good r a b))).run Tryd.prog W = .ok (.bool false) W := fun W => by cases good r a b <;> kernel_rfl
  cases C with
  | false =>
    go_cut [77] (fun v77 W => v77 = .bool false ∧ Aside0 (Below w.heap.size w W ∧ W.heap[S5]? = some (box r a b) ∧ W.heap[S7]? = some (box r1 a1 b1)))
    case first =>
      go_region_held3 (fun W => W.cell? ⟨S5, 0, none⟩ = some (.int .i64 r) ∧ W.cell? ⟨S5, 1, none⟩ = some (.string ⟨a.toArray⟩) ∧ W.cell? ⟨S5, 2, none⟩ = some (.string ⟨b.toArray⟩) ∧ W.cell? ⟨S7, 0, none⟩ = some (.int .i64 r1) ∧ W.cell? ⟨S7, 1, none⟩ = some (.string ⟨a1.toArray⟩) ∧ W.cell? ⟨S7, 2, none⟩ = some (.string ⟨b1.toArray⟩) ∧ W.cell? ⟨S9, 0, none⟩ = some (.int .i64 r1) ∧ W.cell? ⟨S9, 1, none⟩ = some (.string ⟨a1.toArray⟩) ∧ W.cell? ⟨S9, 2, none⟩ = some (.string ⟨b1.toArray⟩)) (first | exact ⟨c50, c51, c52, c70, c71, c72, c90, c91, c92⟩ | exact ⟨p50, p51, p52, p70, p71, p72, p90, p91, p92⟩ | exact ⟨q50, q51, q52, q70, q71, q72, q90, q91, q92⟩ | (go_simp; done) | go_keep) (first | (go_at_call 13; refine (hGI _).mono ?_; rintro e w4 ⟨rfl, hb4⟩; have u5 := blk_below (blk_drew H5.out) hb4; have u7 := blk_below (blk_drew H7.out) hb4; have u9 := blk_below (blk_drew H9.out) hb4; obtain ⟨p50, p51, p52, _⟩ := cells_box u5; obtain ⟨p70, p71, p72, _⟩ := cells_box u7; obtain ⟨p90, p91, p92, _⟩ := cells_box u9; have HB4 := Aside0.mk (below_then (below_drew HBW.out) HBW.out.size hb4); clear hb4; have U5 := Lib.hid u5; have U7 := Lib.hid u7; have U9 := Lib.hid u9; clear u5 u7 u9) | (go_at_call 14; refine (hGS _).mono ?_; rintro e w5 ⟨rfl, hb5⟩; have u5 := blk_below U5.out hb5; have u7 := blk_below U7.out hb5; have u9 := blk_below U9.out hb5; obtain ⟨q50, q51, q52, _⟩ := cells_box u5; obtain ⟨q70, q71, q72, _⟩ := cells_box u7; obtain ⟨q90, q91, q92, _⟩ := cells_box u9; have HB5 := Aside0.mk (below_then HB4.out HB4.out.size hb5); clear hb5; have V5 := Lib.hid u5; have V7 := Lib.hid u7; clear u5 u7 u9))
      go_wp2_with fail
      go_meet
      case rel => exact ⟨rfl, ⟨HB5.out, V5.out, V7.out⟩⟩
    case rest =>
      clear c50 c51 c52 c70 c71 c72 c90 c91 c92 l5 l7 l9 H5 H7 H9 hne hGI hGS hGG HBW
      obtain ⟨rfl, HQ⟩ := hcut
      have HBT := Aside0.mk HQ.out.1
      clear HQ HC
      go_wp2_with fail
      refine (drawRead A2 n2 c2 xs2 _ (HC2.out.below HBT.out)).mono ?_
      rintro e w6 ⟨t, ht, rfl, hb6⟩
      have HB6 := Aside0.mk (below_then HBT.out HBT.out.size hb6)
      have hRI := fun W hW => readImpl t (by omega) W hW
      have hRS := fun W => readSpec t (by omega) W
      rw [if_pos (by omega : t.length ≤ 4000), if_pos (by omega : t.length ≤ 4000), decide_eq_true (by omega : t.length ≤ 4000)] at hRI hRS
      have hL := readP_len 99 1 t
      obtain ⟨L, hLe⟩ : ∃ L, L = (readP 99 1 t).1 := ⟨_, rfl⟩
      obtain ⟨N, hNe⟩ : ∃ N, N = (readP 99 1 t).2 := ⟨_, rfl⟩
      rw [← hLe, ← hNe] at hRI hRS
      rw [← hLe] at hL
      clear hLe hNe hb6
      go_wp2_with fail
      refine (hRI _ (hG.below HB6.out)).mono ?_
      rintro e w7 ⟨v7, rfl, hv7, hb7⟩
      obtain ⟨A7, c7, rfl, hl7, hC7⟩ := Kd.R_reads hv7
      have HB7 := Aside0.mk (below_then HB6.out HB6.out.size hb7)
      have HC7 := Lib.hid hC7
      clear hRI hv7 hb7 hC7
      go_wp2_with fail
      refine (hRS _).mono ?_
      rintro e w8 ⟨v8, rfl, hv8, hb8⟩
      obtain ⟨A8, c8, rfl, hl8, hC8⟩ := Kd.R_reads hv8
      have HB8 := Aside0.mk (below_then HB7.out HB7.out.size hb8)
      have HC7 := Lib.hid (Kd.C_below HC7.out hb8)
      have HC8 := Lib.hid hC8
      clear hRS hv8 hb8 hC8
      go_wp2_with fail
      refine (drawMend A2 n2 c2 xs2 _ (HC2.out.below HB8.out)).mono ?_
      rintro e w9 ⟨r3, a3, b3, hr3, hl3, rfl, hb9⟩
      have HB9 := Aside0.mk (below_then HB8.out HB8.out.size hb9)
      have HC7 := Lib.hid (Kd.C_below HC7.out hb9)
      have HC8 := Lib.hid (Kd.C_below HC8.out hb9)
      obtain ⟨r4, a4, b4, hV, _⟩ := mend_out r3 a3 b3
      have hMI := fun W hW => mendImpl r3 a3 b3 (by omega) (by omega) W hW
      have hMS := fun W => mendSpec r3 a3 b3 (by omega) (by omega) W
      rw [hV] at hMI hMS
      obtain ⟨M, hMe⟩ : ∃ M, M = mendB r3 a3 b3 := ⟨_, rfl⟩
      rw [← hMe] at hMI hMS
      obtain ⟨Z, hZ⟩ : ∃ Z : Int, Z = (if M = true then ((a3.length - (readP 99 1 a3).2 : Nat) : Int) else 0) := ⟨_, rfl⟩
      rw [← hZ] at hMI hMS
      clear hV hMe hZ hb9
      go_wp2_with fail
      refine (hMI _ (hG.below (below_alloc HB9.out _))).mono ?_
      rintro e w10 ⟨rfl, hb10⟩
      have hk36 : w10.heap[w9.heap.size]? = some (box r3 a3 b3) := blk_below (blk_new w9 _) hb10
      obtain ⟨c30, c31, c32, l36⟩ := cells_box hk36
      have HB10 := Aside0.mk (below_then (below_alloc HB9.out _) (by have := HB9.out.size; simp; omega) hb10)
      have HC7 := Lib.hid (Kd.C_below (Kd.C_alloc HC7.out _) hb10)
      have HC8 := Lib.hid (Kd.C_below (Kd.C_alloc HC8.out _) hb10)
      clear hMI hb10 hk36
      go_wp2_with fail
      refine (hMS _).mono ?_
      rintro e w11 ⟨rfl, hb11⟩
      have hk37 : w11.heap[w10.heap.size]? = some (box r4 a4 b4) := blk_below (blk_new w10 _) hb11
      clear c30 c31 c32 l36
      obtain ⟨c30, c31, c32, l37⟩ := cells_box hk37
      have HB11 := Aside0.mk (below_alloc (below_then (below_alloc HB10.out _) (by have := HB10.out.size; simp; omega) hb11) (box r4 a4 b4))
      have HC7 := Lib.hid (Kd.C_alloc (Kd.C_below (Kd.C_alloc HC7.out _) hb11) (box r4 a4 b4))
      have HC8 := Lib.hid (Kd.C_alloc (Kd.C_below (Kd.C_alloc HC8.out _) hb11) (box r4 a4 b4))
      clear hMS hb11 hk37
      have hes := eql_store r4 a4 b4
      cases M
      all_goals
        go_wp2_with fail
        refine (sameTexts L L A7 A8 c7 c8 _ HC7.out HC8.out (by omega) (by omega) hl7 hl8).mono ?_
        rw [decide_eq_true rfl]
        rintro e w12 ⟨rfl, ⟨nd, rfl⟩⟩
        go_wp2
        go_ret
        exact ⟨rfl, pw_below_drewN HB11.out _⟩
  | true =>
    go_cut [77] (fun v77 W => v77 = .bool false ∧ Aside0 (Below w.heap.size w W ∧ W.heap[S5]? = some (box r a b) ∧ W.heap[S7]? = some (box r1 a1 b1)))
    case first =>
      go_region_held3 (fun W => W.cell? ⟨S5, 0, none⟩ = some (.int .i64 r) ∧ W.cell? ⟨S5, 1, none⟩ = some (.string ⟨a.toArray⟩) ∧ W.cell? ⟨S5, 2, none⟩ = some (.string ⟨b.toArray⟩) ∧ W.cell? ⟨S7, 0, none⟩ = some (.int .i64 r1) ∧ W.cell? ⟨S7, 1, none⟩ = some (.string ⟨a1.toArray⟩) ∧ W.cell? ⟨S7, 2, none⟩ = some (.string ⟨b1.toArray⟩) ∧ W.cell? ⟨S9, 0, none⟩ = some (.int .i64 r1) ∧ W.cell? ⟨S9, 1, none⟩ = some (.string ⟨a1.toArray⟩) ∧ W.cell? ⟨S9, 2, none⟩ = some (.string ⟨b1.toArray⟩)) (first | exact ⟨c50, c51, c52, c70, c71, c72, c90, c91, c92⟩ | exact ⟨p50, p51, p52, p70, p71, p72, p90, p91, p92⟩ | exact ⟨q50, q51, q52, q70, q71, q72, q90, q91, q92⟩ | (go_simp; done) | go_keep) (first | (go_at_call 13; refine (hGI _).mono ?_; rintro e w4 ⟨rfl, hb4⟩; have u5 := blk_below (blk_drew H5.out) hb4; have u7 := blk_below (blk_drew H7.out) hb4; have u9 := blk_below (blk_drew H9.out) hb4; obtain ⟨p50, p51, p52, _⟩ := cells_box u5; obtain ⟨p70, p71, p72, _⟩ := cells_box u7; obtain ⟨p90, p91, p92, _⟩ := cells_box u9; have HB4 := Aside0.mk (below_then (below_drew HBW.out) HBW.out.size hb4); clear hb4; have U5 := Lib.hid u5; have U7 := Lib.hid u7; have U9 := Lib.hid u9; clear u5 u7 u9) | (go_at_call 14; refine (hGS _).mono ?_; rintro e w5 ⟨rfl, hb5⟩; have u5 := blk_below U5.out hb5; have u7 := blk_below U7.out hb5; have u9 := blk_below U9.out hb5; obtain ⟨q50, q51, q52, _⟩ := cells_box u5; obtain ⟨q70, q71, q72, _⟩ := cells_box u7; obtain ⟨q90, q91, q92, _⟩ := cells_box u9; have HB5 := Aside0.mk (below_then HB4.out HB4.out.size hb5); clear hb5; have V5 := Lib.hid u5; have V7 := Lib.hid u7; clear u5 u7 u9))
      go_wp2_with fail
      go_meet
      case rel => exact ⟨rfl, ⟨HB5.out, V5.out, V7.out⟩⟩
    case rest =>
      clear c50 c51 c52 c70 c71 c72 c90 c91 c92 l5 l7 l9 H5 H7 H9 hne hGI hGS hGG HBW
      obtain ⟨rfl, HQ⟩ := hcut
      obtain ⟨er, ea, eb, hg, hk0, hk1⟩ := HC.out rfl
      clear HC
      obtain ⟨g0, g1, g2, g3⟩ := good_len hg
      have hcsl : a1.length ≤ a.length + b.length := by rw [ea]; simp; omega
      have hpre1 : (readP 99 1 a1).1 <+: (readP 99 1 (a ++ b)).1 := by
        have := readP_prefix 99 1 a1 (b.drop k.toNat)
        rw [ea, List.append_assoc, List.take_append_drop] at this
        rw [ea]
        exact this
      have hpre2 : (readP 99 1 a).1 <+: (readP 99 1 a1).1 := by
        rw [ea]
        exact readP_prefix 99 1 a _
      have hself := readP_self 99 1 a1
      have hNle := readP_le 99 1 a1
      have hLL := readP_len 99 1 (a ++ b)
      have hgc : good r1 a1 b1 = true := by rw [er, eb]; exact good_of g0 g1 (by simp; omega)
      have hgm : good r1 (a1.take (readP 99 1 a1).2) b1 = true := by rw [er, eb]; exact good_of g0 g1 (by simp; omega)
      have hT1 := fun W hW => textsImpl r a b (by omega) (by omega) (by simp; omega) W hW
      rw [hg, if_pos rfl] at hT1
      have hF1 := fun W hW => readImpl (a ++ b) (by simp; omega) W hW
      rw [if_pos (by simp; omega : (a ++ b).length ≤ 4000), if_pos (by simp; omega : (a ++ b).length ≤ 4000), decide_eq_true (by simp; omega : (a ++ b).length ≤ 4000), ← Y.mk_append] at hF1
      have hF2 := fun W hW => readImpl a (by omega) W hW
      rw [if_pos (by omega : a.length ≤ 4000), if_pos (by omega : a.length ≤ 4000), decide_eq_true (by omega : a.length ≤ 4000)] at hF2
      have hMM : mendB r1 a1 b1 = true := by unfold mendB; rw [hgc, eb]; rfl
      have hM1 := fun W hW => mendImpl r1 a1 b1 (by omega) (by rw [eb]; simp) W hW
      unfold mendV at hM1
      rw [hMM, if_pos rfl, if_pos rfl] at hM1
      have hT2 := fun W hW => textsImpl r1 a1 b1 (by omega) (by rw [eb]; simp) (by rw [eb]; simp; omega) W hW
      rw [hgc, if_pos rfl] at hT2
      have hT3 := fun W hW => textsImpl r1 (a1.take (readP 99 1 a1).2) b1 (by simp; omega) (by rw [eb]; simp) (by rw [eb]; simp; omega) W hW
      rw [hgm, if_pos rfl] at hT3
      have hP := fun W hW => putFImpl r1 (a1.take (readP 99 1 a1).2) b1 [97] (by rw [eb]; simp; omega) (by simp) (by omega) (by omega) W hW
      have hK2 : putK r1 (a1.take (readP 99 1 a1).2) b1 [97] ≠ 2 := by
        unfold putK
        rw [hgm, if_pos rfl]
        unfold putC
        rw [eb, List.append_nil, hself]
        split
        · simp
        · rw [if_neg (by simp; omega)]
          split
          · simp
          · split <;> simp
      unfold putR at hP
      rw [hgm, if_pos rfl] at hP
      rw [eb] at hT2 hT3 hM1 hP hK2
      simp only [List.append_nil] at hT2 hT3
      rw [hself] at hT3
      --#MID2
      obtain ⟨L1, e1⟩ : ∃ L, L = (readP 99 1 (a ++ b)).1 := ⟨_, rfl⟩
      obtain ⟨N1, e2⟩ : ∃ N, N = (readP 99 1 (a ++ b)).2 := ⟨_, rfl⟩
      obtain ⟨L2, e3⟩ : ∃ L, L = (readP 99 1 a1).1 := ⟨_, rfl⟩
      obtain ⟨N2, e4⟩ : ∃ N, N = (readP 99 1 a1).2 := ⟨_, rfl⟩
      obtain ⟨L3, e5⟩ : ∃ L, L = (readP 99 1 a).1 := ⟨_, rfl⟩
      obtain ⟨N3, e6⟩ : ∃ N, N = (readP 99 1 a).2 := ⟨_, rfl⟩
      rw [← e1] at hT1 hF1 hpre1 hLL
      rw [← e2] at hF1
      rw [← e3] at hT2 hT3 hpre1 hpre2
      rw [← e4] at hM1 hT3 hP hK2 hNle
      rw [← e5] at hF2 hpre2
      rw [← e6] at hF2
      clear e1 e2 e3 e4 e5 e6 hself hgc hgm hMM hg ea
      have hl21 := hpre1.length_le
      have hl32 := hpre2.length_le
      have htk : L1.take L2.length = L2 := (List.prefix_iff_eq_take.1 hpre1).symm
      have HTK := Lib.hid htk
      have hK2' : ((putK r1 (a1.take N2) [] [97] : Nat) : Int) ≠ 2 := by omega
      have HK2 := Lib.hid hK2'
      clear hpre1 hpre2 htk hK2 hK2'
      obtain ⟨AM, eAM⟩ : ∃ l, l = a1.take N2 := ⟨_, rfl⟩
      rw [← eAM] at hM1 hT3 hP HK2
      have hAM : AM.length ≤ 4000 := by rw [eAM]; simp; omega
      clear eAM
      generalize a1.length - N2 = lost at hM1
      generalize putL r1 AM [] [97] = V3 at hP
      generalize putK r1 AM [] [97] = KK at hP HK2
      have hd2 : ((KK : Int) == 2) = false := by have := HK2.out; simp; omega
      subst eb
      subst er
      obtain ⟨hBq, k5, k7⟩ := HQ.out
      clear HQ
      obtain ⟨c50, c51, c52, l5⟩ := cells_box k5
      obtain ⟨c70, c71, c72, l7⟩ := cells_box k7
      have HBq := Aside0.mk hBq
      have K5 := Lib.hid k5
      have K7 := Lib.hid k7
      clear hBq k5 k7
      go_wp2_with fail
      refine (hT1 _ (hG.below HBq.out)).mono ?_
      rintro e w21 ⟨v, rfl, hv, hb⟩
      obtain ⟨A11, c11, rfl, hl11, hC11⟩ := Kd.R_reads hv
      have HC11 := Lib.hid hC11
      have hvt := Kd.R_take hv hl21
      rw [HTK.out] at hvt
      have HC11t := Lib.hid (Kd.R_reads' hvt).2.2
      clear hv hC11 hvt
      have k5 := blk_below K5.out hb
      clear c50 c51 c52 l5 K5
      obtain ⟨c50, c51, c52, l5⟩ := cells_box k5
      have K5 := Lib.hid k5
      clear k5
      have k7 := blk_below K7.out hb
      clear c70 c71 c72 l7 K7
      obtain ⟨c70, c71, c72, l7⟩ := cells_box k7
      have K7 := Lib.hid k7
      clear k7
      have Hw21 := Aside0.mk (below_then HBq.out HBq.out.size hb)
      clear hT1
      clear hb
      go_wp2_with fail
      refine (hF1 _ (hG.below Hw21.out)).mono ?_
      rintro e w22 ⟨v, rfl, hv, hb⟩
      have HC11 := Lib.hid (Kd.C_below HC11.out hb)
      have HC11t := Lib.hid (Kd.C_below HC11t.out hb)
      obtain ⟨A13, c13, rfl, hl13, hC13⟩ := Kd.R_reads hv
      have HC13 := Lib.hid hC13
      clear hv hC13
      have k5 := blk_below K5.out hb
      clear c50 c51 c52 l5 K5
      obtain ⟨c50, c51, c52, l5⟩ := cells_box k5
      have K5 := Lib.hid k5
      clear k5
      have k7 := blk_below K7.out hb
      clear c70 c71 c72 l7 K7
      obtain ⟨c70, c71, c72, l7⟩ := cells_box k7
      have K7 := Lib.hid k7
      clear k7
      have Hw22 := Aside0.mk (below_then Hw21.out Hw21.out.size hb)
      clear hF1
      clear hb
      go_wp2_with fail
      refine (hF2 _ (hG.below Hw22.out)).mono ?_
      rintro e w23 ⟨v, rfl, hv, hb⟩
      have HC11 := Lib.hid (Kd.C_below HC11.out hb)
      have HC11t := Lib.hid (Kd.C_below HC11t.out hb)
      have HC13 := Lib.hid (Kd.C_below HC13.out hb)
      obtain ⟨A16, c16, rfl, hl16, hC16⟩ := Kd.R_reads hv
      have HC16 := Lib.hid hC16
      clear hv hC16
      have k5 := blk_below K5.out hb
      clear c50 c51 c52 l5 K5
      obtain ⟨c50, c51, c52, l5⟩ := cells_box k5
      have K5 := Lib.hid k5
      clear k5
      have k7 := blk_below K7.out hb
      clear c70 c71 c72 l7 K7
      obtain ⟨c70, c71, c72, l7⟩ := cells_box k7
      have K7 := Lib.hid k7
      clear k7
      have Hw23 := Aside0.mk (below_then Hw22.out Hw22.out.size hb)
      clear hF2
      clear hb
      go_wp2_with fail
      refine (hM1 _ (hG.below Hw23.out)).mono ?_
      rintro e w24 ⟨rfl, hb⟩
      have HC11 := Lib.hid (Kd.C_below HC11.out hb)
      have HC11t := Lib.hid (Kd.C_below HC11t.out hb)
      have HC13 := Lib.hid (Kd.C_below HC13.out hb)
      have HC16 := Lib.hid (Kd.C_below HC16.out hb)
      have k5 := blk_below K5.out hb
      clear c50 c51 c52 l5 K5
      obtain ⟨c50, c51, c52, l5⟩ := cells_box k5
      have K5 := Lib.hid k5
      clear k5
      have k7 := blk_below K7.out hb
      clear c70 c71 c72 l7 K7
      obtain ⟨c70, c71, c72, l7⟩ := cells_box k7
      have K7 := Lib.hid k7
      clear k7
      have Hw24 := Aside0.mk (below_then Hw23.out Hw23.out.size hb)
      clear hM1
      clear hb
      go_wp2_with fail
      refine (hT2 _ (hG.below (below_alloc Hw24.out _))).mono ?_
      rintro e w25 ⟨v, rfl, hv, hb⟩
      have HC11 := Lib.hid (Kd.C_below (Kd.C_alloc HC11.out _) hb)
      have HC11t := Lib.hid (Kd.C_below (Kd.C_alloc HC11t.out _) hb)
      have HC13 := Lib.hid (Kd.C_below (Kd.C_alloc HC13.out _) hb)
      have HC16 := Lib.hid (Kd.C_below (Kd.C_alloc HC16.out _) hb)
      obtain ⟨A22, c22, rfl, hl22, hC22⟩ := Kd.R_reads hv
      have HC22 := Lib.hid hC22
      clear hv hC22
      have k5 := blk_below (blk_alloc K5.out _) hb
      clear c50 c51 c52 l5 K5
      obtain ⟨c50, c51, c52, l5⟩ := cells_box k5
      have K5 := Lib.hid k5
      clear k5
      have k7 := blk_below (blk_alloc K7.out _) hb
      clear c70 c71 c72 l7 K7
      obtain ⟨c70, c71, c72, l7⟩ := cells_box k7
      have K7 := Lib.hid k7
      clear k7
      have Hw25 := Aside0.mk (below_then (below_alloc Hw24.out _) (by have := Hw24.out.size; simp; omega) hb)
      clear hT2
      have k9 : w25.heap[w24.heap.size]? = some (box r1 AM []) := blk_below (blk_new w24 _) hb
      obtain ⟨S19, e19⟩ : ∃ q, q = w24.heap.size := ⟨_, rfl⟩
      rw [← e19] at k9 ⊢
      clear e19
      obtain ⟨c90, c91, c92, l9⟩ := cells_box k9
      have K9 := Lib.hid k9
      clear k9 hb
      go_wp2_with fail
      refine (hT3 _ (hG.below Hw25.out)).mono ?_
      rintro e w26 ⟨v, rfl, hv, hb⟩
      have HC11 := Lib.hid (Kd.C_below HC11.out hb)
      have HC11t := Lib.hid (Kd.C_below HC11t.out hb)
      have HC13 := Lib.hid (Kd.C_below HC13.out hb)
      have HC16 := Lib.hid (Kd.C_below HC16.out hb)
      have HC22 := Lib.hid (Kd.C_below HC22.out hb)
      obtain ⟨A24, c24, rfl, hl24, hC24⟩ := Kd.R_reads hv
      have HC24 := Lib.hid hC24
      clear hv hC24
      have k5 := blk_below K5.out hb
      clear c50 c51 c52 l5 K5
      obtain ⟨c50, c51, c52, l5⟩ := cells_box k5
      have K5 := Lib.hid k5
      clear k5
      have k9 := blk_below K9.out hb
      clear c90 c91 c92 l9 K9
      obtain ⟨c90, c91, c92, l9⟩ := cells_box k9
      have K9 := Lib.hid k9
      clear k9
      have Hw26 := Aside0.mk (below_then Hw25.out Hw25.out.size hb)
      clear hT3
      clear hb
      go_wp2_with fail
      refine (sameTexts L1 L1 A13 A11 c13 c11 _ HC13.out HC11.out (by omega) (by omega) hl13 hl11).mono ?_
      rw [decide_eq_true rfl]
      rintro e w27 ⟨rfl, ⟨nd1, rfl⟩⟩
      go_wp2_with fail
      refine (sameTexts L2 L2 A24 A22 c24 c22 _ (Kd.C_drewN HC24.out _) (Kd.C_drewN HC22.out _) (by omega) (by omega) hl24 hl22).mono ?_
      rw [decide_eq_true rfl]
      rintro e w28 ⟨rfl, ⟨nd2, rfl⟩⟩
      have h0 : ¬ ((lost : Int) < 0) := by omega
      have hd0 : decide ((lost : Int) < 0) = false := decide_eq_false h0
      go_upto_if 163 with (fail)
      go_cut [] (fun W => Aside0 (Below w.heap.size w W ∧ W.heap[S19]? = some (box r1 AM [])))
      case first =>
        by_cases hU : (N1 : Int) = (a.length : Int) + b.length
        · have dU : ((N1 : Int) == (a.length : Int) + b.length) = true := by simp; omega
          have HU := Lib.hid hU
          clear hU
          have t1 : ¬ L1.length < L2.length := by omega
          have t2 : ¬ L2.length < L3.length := by omega
          go_wp2_with fail
          refine (sameTexts L2 L2 A11 A22 c11 c22 _ (by first | exact Kd.C_drewN HC11t.out _ | exact Kd.C_drewN (Kd.C_drewN HC11t.out _) _) (by first | exact Kd.C_drewN HC22.out _ | exact Kd.C_drewN (Kd.C_drewN HC22.out _) _) (by omega) (by omega) (by omega) hl22).mono ?_
          rw [decide_eq_true rfl]
          rintro e w29 ⟨rfl, ⟨nd3, rfl⟩⟩
          go_wp2_with fail
          go_meet
          case rel => exact ⟨pw_below_drewN Hw26.out _, blk_drewN K9.out _⟩
        · have dU : ((N1 : Int) == (a.length : Int) + b.length) = false := by simp; omega
          clear hU
          go_wp2_with fail
          go_meet
          case rel => exact ⟨pw_below_drewN Hw26.out _, blk_drewN K9.out _⟩
      case rest =>
        clear c50 c51 c52 l5 K5 c90 c91 c92 l9 K9 HC11 HC11t HC13 HC16 HC22 HC24
        obtain ⟨hBr, k9⟩ := hcut.out
        obtain ⟨c90, c91, c92, l9⟩ := cells_box k9
        clear hcut k9
        have HBr := Aside0.mk hBr
        clear hBr
        go_wp2_with fail
        refine (hP _ (hG.below HBr.out)).mono ?_
        rintro e w30 ⟨rfl, hb30⟩
        have HBT := Aside0.mk (below_alloc (below_then HBr.out HBr.out.size hb30) (box r1 AM V3))
        clear hP hb30 HBr c90 c91 c92 l9
        go_wp2_with fail
        refine (drawRead A2 n2 c2 xs2 _ (HC2.out.below HBT.out)).mono ?_
        rintro e w6 ⟨t, ht, rfl, hb6⟩
        have HB6 := Aside0.mk (below_then HBT.out HBT.out.size hb6)
        have hRI := fun W hW => readImpl t (by omega) W hW
        have hRS := fun W => readSpec t (by omega) W
        rw [if_pos (by omega : t.length ≤ 4000), if_pos (by omega : t.length ≤ 4000), decide_eq_true (by omega : t.length ≤ 4000)] at hRI hRS
        have hL := readP_len 99 1 t
        obtain ⟨L, hLe⟩ : ∃ L, L = (readP 99 1 t).1 := ⟨_, rfl⟩
        obtain ⟨N, hNe⟩ : ∃ N, N = (readP 99 1 t).2 := ⟨_, rfl⟩
        rw [← hLe, ← hNe] at hRI hRS
        rw [← hLe] at hL
        clear hLe hNe hb6
        go_wp2_with fail
        refine (hRI _ (hG.below HB6.out)).mono ?_
        rintro e w7 ⟨v7, rfl, hv7, hb7⟩
        obtain ⟨A7, c7, rfl, hl7, hC7⟩ := Kd.R_reads hv7
        have HB7 := Aside0.mk (below_then HB6.out HB6.out.size hb7)
        have HC7 := Lib.hid hC7
        clear hRI hv7 hb7 hC7
        go_wp2_with fail
        refine (hRS _).mono ?_
        rintro e w8 ⟨v8, rfl, hv8, hb8⟩
        obtain ⟨A8, c8, rfl, hl8, hC8⟩ := Kd.R_reads hv8
        have HB8 := Aside0.mk (below_then HB7.out HB7.out.size hb8)
        have HC7 := Lib.hid (Kd.C_below HC7.out hb8)
        have HC8 := Lib.hid hC8
        clear hRS hv8 hb8 hC8
        go_wp2_with fail
        refine (drawMend A2 n2 c2 xs2 _ (HC2.out.below HB8.out)).mono ?_
        rintro e w9 ⟨r3, a3, b3, hr3, hl3, rfl, hb9⟩
        have HB9 := Aside0.mk (below_then HB8.out HB8.out.size hb9)
        have HC7 := Lib.hid (Kd.C_below HC7.out hb9)
        have HC8 := Lib.hid (Kd.C_below HC8.out hb9)
        obtain ⟨r4, a4, b4, hV, _⟩ := mend_out r3 a3 b3
        have hMI := fun W hW => mendImpl r3 a3 b3 (by omega) (by omega) W hW
        have hMS := fun W => mendSpec r3 a3 b3 (by omega) (by omega) W
        rw [hV] at hMI hMS
        obtain ⟨M, hMe⟩ : ∃ M, M = mendB r3 a3 b3 := ⟨_, rfl⟩
        rw [← hMe] at hMI hMS
        obtain ⟨Z, hZ⟩ : ∃ Z : Int, Z = (if M = true then ((a3.length - (readP 99 1 a3).2 : Nat) : Int) else 0) := ⟨_, rfl⟩
        rw [← hZ] at hMI hMS
        clear hV hMe hZ hb9
        go_wp2_with fail
        refine (hMI _ (hG.below (below_alloc HB9.out _))).mono ?_
        rintro e w10 ⟨rfl, hb10⟩
        have hk36 : w10.heap[w9.heap.size]? = some (box r3 a3 b3) := blk_below (blk_new w9 _) hb10
        obtain ⟨c30, c31, c32, l36⟩ := cells_box hk36
        have HB10 := Aside0.mk (below_then (below_alloc HB9.out _) (by have := HB9.out.size; simp; omega) hb10)
        have HC7 := Lib.hid (Kd.C_below (Kd.C_alloc HC7.out _) hb10)
        have HC8 := Lib.hid (Kd.C_below (Kd.C_alloc HC8.out _) hb10)
        clear hMI hb10 hk36
        go_wp2_with fail
        refine (hMS _).mono ?_
        rintro e w11 ⟨rfl, hb11⟩
        have hk37 : w11.heap[w10.heap.size]? = some (box r4 a4 b4) := blk_below (blk_new w10 _) hb11
        clear c30 c31 c32 l36
        obtain ⟨c30, c31, c32, l37⟩ := cells_box hk37
        have HB11 := Aside0.mk (below_alloc (below_then (below_alloc HB10.out _) (by have := HB10.out.size; simp; omega) hb11) (box r4 a4 b4))
        have HC7 := Lib.hid (Kd.C_alloc (Kd.C_below (Kd.C_alloc HC7.out _) hb11) (box r4 a4 b4))
        have HC8 := Lib.hid (Kd.C_alloc (Kd.C_below (Kd.C_alloc HC8.out _) hb11) (box r4 a4 b4))
        clear hMS hb11 hk37
        have hes := eql_store r4 a4 b4
        cases M
        all_goals
          go_wp2_with fail
          refine (sameTexts L L A7 A8 c7 c8 _ HC7.out HC8.out (by omega) (by omega) hl7 hl8).mono ?_
          rw [decide_eq_true rfl]
          rintro e w12 ⟨rfl, ⟨nd, rfl⟩⟩
          go_wp2
          go_ret
          exact ⟨rfl, pw_below_drewN HB11.out _⟩
end Go.Proofs.YtjhaaaljlpcnaaaDoor.V
