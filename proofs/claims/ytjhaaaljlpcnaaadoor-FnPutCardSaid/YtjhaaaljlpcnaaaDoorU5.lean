/- The draws of stores with a number, a text, or behind a crash. Conditions: the bytes of the code read as bytes. -/
import Derived.Test.YtjhaaaljlpcnaaaDoorU4
namespace Go.Proofs.YtjhaaaljlpcnaaaDoor.U
set_option linter.unusedVariables false
set_option linter.unusedSimpArgs false
open Go.RowKit Go.Proofs.YtjhaaaljlpcnaaaDoorW.PrintWords Go.Proofs.YtjhaaaljlpcnaaaDoor.S

theorem drawPut (A : Option Addr) (n c : Nat) (xs : List Int) (w : World) (h : Code w A n xs) : Calls Tryd.prog 24 #[.slice A n c] w (StSP 1000 w) := by
  have hc := h.cur (below_alloc (Below.refl _ _) (.cells #[.int .i64 0, .string ⟨#[]⟩, .string ⟨#[]⟩] 31)) c
  have hb0 := below_alloc (below_alloc (Below.refl w.heap.size w) (.cells #[.int .i64 0, .string ⟨#[]⟩, .string ⟨#[]⟩] 31)) (.cells #[.slice A n c, .int .i64 0, .int .u64 0] 64)
  rw [World.size_alloc] at hc
  have HB0 := Lib.hid hb0
  have HC := Lib.hid hc
  clear hc hb0 h
  go_enter Tryd.func24, Tryd.ntmps24
  go_wp2_with fail
  refine (store_draw _ _ _ _ HC.out (by omega)).mono ?_
  rintro e w1 ⟨r, a, b, hr, hl, rfl, hC1, hg1⟩
  have hB1 := Lib.hid (below_grownBy HB0.out hg1 (by simp; omega) (by omega))
  have hk := g_blk hg1 (blk_alloc (blk_new w _) _) (by omega)
  have hCC := hC1.alloc (.cells #[.int .i64 r, .string ⟨a.toArray⟩, .string ⟨b.toArray⟩] 31)
  have hCCd := hCC.drewN 1
  have HK := Lib.hid hk
  have hRS := blk_lt hk
  have hgS : w1.heap.size ≠ w.heap.size + 1 := by have := hC1.lt; omega
  have hRg : w.heap.size ≠ w.heap.size + 1 := by omega
  clear hk hg1
  go_upto_region 3 with (fail)
  obtain ⟨W, hW⟩ : ∃ W, W = w1.alloc (.cells #[.int .i64 r, .string ⟨a.toArray⟩, .string ⟨b.toArray⟩] 31) := ⟨_, rfl⟩
  have hS : W.heap[w1.heap.size]? = some (.cells #[.int .i64 r, .string ⟨a.toArray⟩, .string ⟨b.toArray⟩] 31 (0, 0)) := by rw [hW]; exact blk_new _ _
  have hR : W.heap[w.heap.size]? = some (.cells #[.int .i64 0, .string ⟨#[]⟩, .string ⟨#[]⟩] 31 (0, 0)) := by rw [hW]; exact blk_alloc HK.out _
  have hBW : Below w.heap.size w W := by rw [hW]; exact below_alloc hB1.out _
  rw [← hW] at hCC hCCd ⊢
  clear hW
  obtain ⟨S, hSe⟩ : ∃ S, S = w1.heap.size := ⟨_, rfl⟩
  rw [← hSe] at hS hRS hgS ⊢
  clear hSe hB1 HK hC1
  obtain ⟨c10, c11, c12, f10, f11, f12⟩ := cells3 hS
  have HR := Lib.hid hR
  have HS := Lib.hid hS
  have HBW := Lib.hid hBW
  clear hS hR hBW
  go_region_held3 (fun W => W.cell? ⟨S, 0, none⟩ = some (.int .i64 r) ∧ W.cell? ⟨S, 1, none⟩ = some (.string ⟨a.toArray⟩) ∧ W.cell? ⟨S, 2, none⟩ = some (.string ⟨b.toArray⟩)) (first | exact ⟨c10, c11, c12⟩ | exact ⟨d10, d11, d12⟩ | (go_simp; done) | go_keep) (first | (go_at_call 49; refine (text _ _ _ _ hCCd (by omega)).mono ?_; rintro e w4 ⟨s, hs, rfl, hC4, hg4⟩; have hk4 := g_blk hg4 (blk_drew HS.out) hgS; obtain ⟨d10, d11, d12, e10, e11, e12⟩ := cells3 hk4; have hr4 := g_blk hg4 (blk_drew HR.out) hRg; obtain ⟨y10, y11, y12, z10, z11, z12⟩ := cells3 hr4; have HR4 := Lib.hid hr4; clear hr4; have HB4 := Lib.hid (below_grownBy (below_drew HBW.out) hg4 HBW.out.size (by omega))))
  go_wp2
  exact end_ct rfl HR4.out rfl ⟨r, a, b, s.data.toList, hr, hl, hs, rfl, below_set3 HB4.out (Nat.le_refl _) _ _ _⟩

theorem drawCrash (A : Option Addr) (n c : Nat) (xs : List Int) (w : World) (h : Code w A n xs) : Calls Tryd.prog 10 #[.slice A n c] w (StIP 1000 w) := by
  have hc := h.cur (below_alloc (Below.refl _ _) (.cells #[.int .i64 0, .string ⟨#[]⟩, .string ⟨#[]⟩] 31)) c
  have hb0 := below_alloc (below_alloc (Below.refl w.heap.size w) (.cells #[.int .i64 0, .string ⟨#[]⟩, .string ⟨#[]⟩] 31)) (.cells #[.slice A n c, .int .i64 0, .int .u64 0] 64)
  rw [World.size_alloc] at hc
  have HB0 := Lib.hid hb0
  have HC := Lib.hid hc
  clear hc hb0 h
  go_enter Tryd.func10, Tryd.ntmps10
  go_wp2_with fail
  refine (store_draw _ _ _ _ HC.out (by omega)).mono ?_
  rintro e w1 ⟨r, a, b, hr, hl, rfl, hC1, hg1⟩
  have hB1 := Lib.hid (below_grownBy HB0.out hg1 (by simp; omega) (by omega))
  have hk := g_blk hg1 (blk_alloc (blk_new w _) _) (by omega)
  have hCC := hC1.alloc (.cells #[.int .i64 r, .string ⟨a.toArray⟩, .string ⟨b.toArray⟩] 31)
  have hCCd := hCC.drewN 1
  have HK := Lib.hid hk
  have hRS := blk_lt hk
  have hgS : w1.heap.size ≠ w.heap.size + 1 := by have := hC1.lt; omega
  have hRg : w.heap.size ≠ w.heap.size + 1 := by omega
  clear hk hg1
  go_upto_region 3 with (fail)
  obtain ⟨W, hW⟩ : ∃ W, W = w1.alloc (.cells #[.int .i64 r, .string ⟨a.toArray⟩, .string ⟨b.toArray⟩] 31) := ⟨_, rfl⟩
  have hS : W.heap[w1.heap.size]? = some (.cells #[.int .i64 r, .string ⟨a.toArray⟩, .string ⟨b.toArray⟩] 31 (0, 0)) := by rw [hW]; exact blk_new _ _
  have hR : W.heap[w.heap.size]? = some (.cells #[.int .i64 0, .string ⟨#[]⟩, .string ⟨#[]⟩] 31 (0, 0)) := by rw [hW]; exact blk_alloc HK.out _
  have hBW : Below w.heap.size w W := by rw [hW]; exact below_alloc hB1.out _
  rw [← hW] at hCC hCCd ⊢
  clear hW
  obtain ⟨S, hSe⟩ : ∃ S, S = w1.heap.size := ⟨_, rfl⟩
  rw [← hSe] at hS hRS hgS ⊢
  clear hSe hB1 HK hC1
  obtain ⟨c10, c11, c12, f10, f11, f12⟩ := cells3 hS
  have HR := Lib.hid hR
  have HS := Lib.hid hS
  have HBW := Lib.hid hBW
  have s1 : IntKind.i64.wrap ((b.length : Int) + 2) = (b.length : Int) + 2 := IntWalk.i64_in _ (by omega)
  clear hS hR hBW
  go_region_held3 (fun W => W.cell? ⟨S, 0, none⟩ = some (.int .i64 r) ∧ W.cell? ⟨S, 1, none⟩ = some (.string ⟨a.toArray⟩) ∧ W.cell? ⟨S, 2, none⟩ = some (.string ⟨b.toArray⟩)) (first | exact ⟨c10, c11, c12⟩ | exact ⟨d10, d11, d12⟩ | exact ⟨g10, g11, g12⟩ | (go_simp; done) | go_keep) (first | (go_at_call 42; first | (refine (pick _ _ _ _ 9 hC4 (by omega) (by omega)).mono ?_; rintro e w5 ⟨m2, hm2, rfl, hC5, hg5⟩; have hk5 := g_blk hg5 hk4 hgS; obtain ⟨g10, g11, g12, i10, i11, i12⟩ := cells3 hk5; have hr5 := g_blk hg5 HR4.out hRg; obtain ⟨x10, x11, x12, v10, v11, v12⟩ := cells3 hr5; have HR5 := Lib.hid hr5; clear hr5; have HB5 := Lib.hid (below_grownBy HB4.out hg5 HB4.out.size (by omega)); have hm2' : m2 < 9 := by omega) | (refine (pick _ _ _ _ _ hCCd (by omega) (by first | omega | (rw [s1]; omega))).mono ?_; rintro e w4 ⟨m1, hm1, rfl, hC4, hg4⟩; have hk4 := g_blk hg4 (blk_drew HS.out) hgS; obtain ⟨d10, d11, d12, e10, e11, e12⟩ := cells3 hk4; have hr4 := g_blk hg4 (blk_drew HR.out) hRg; obtain ⟨y10, y11, y12, z10, z11, z12⟩ := cells3 hr4; have HR4 := Lib.hid hr4; clear hr4; have HB4 := Lib.hid (below_grownBy (below_drew HBW.out) hg4 HBW.out.size (by omega)); have hm1' : m1 ≤ 1002 := by (first | omega | (rw [s1] at hm1; omega)))))
  go_wp2
  exact end_ct rfl HR5.out rfl ⟨r, a, b, _, hr, hl, rfl, below_set3 HB5.out (Nat.le_refl _) _ _ _⟩
end Go.Proofs.YtjhaaaljlpcnaaaDoor.U
