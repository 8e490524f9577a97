/- The draw of a store for mending. Conditions: the bytes of the code read as bytes. -/
import Derived.Test.YtjhaaaljlpcnaaaDoorU5
namespace Go.Proofs.YtjhaaaljlpcnaaaDoor.U
set_option linter.unusedVariables false
set_option linter.unusedSimpArgs false
open Go.RowKit Go.Proofs.YtjhaaaljlpcnaaaDoorW.PrintWords Go.Proofs.YtjhaaaljlpcnaaaDoor.S

set_option maxHeartbeats 4000000 in
set_option maxRecDepth 100000 in
theorem drawMend (A : Option Addr) (n c : Nat) (xs : List Int) (w : World) (h : Code w A n xs) : Calls Tryd.prog 22 #[.slice A n c] w (StP 1000 w) := by
  have hc := h.cur (below_alloc (Below.refl _ _) (.cells #[.int .i64 0, .string ⟨#[]⟩, .string ⟨#[]⟩] 31)) c
  have hb0 := below_alloc (below_alloc (Below.refl w.heap.size w) (.cells #[.int .i64 0, .string ⟨#[]⟩, .string ⟨#[]⟩] 31)) (.cells #[.slice A n c, .int .i64 0, .int .u64 0] 64)
  rw [World.size_alloc] at hc
  have HB0 := Lib.hid hb0
  have HC := Lib.hid hc
  clear hc hb0 h
  go_enter Tryd.func22, Tryd.ntmps22
  go_wp2_with fail
  refine (store_draw _ _ _ _ HC.out (by omega)).mono ?_
  rintro e w1 ⟨r, a, b, hr, hl, rfl, hC1, hg1⟩
  have hB1 := Lib.hid (below_grownBy HB0.out hg1 (by simp; omega) (by omega))
  have hk := g_blk hg1 (blk_alloc (blk_new w _) _) (by omega)
  have hCC := hC1.alloc (.cells #[.int .i64 r, .string ⟨a.toArray⟩, .string ⟨b.toArray⟩] 31)
  have hCCd := hCC.drewN 1
  have HK := Lib.hid hk
  have hRS := blk_lt hk
  have hgS : w1.heap.size ≠ w.heap.size + 1 := by have := hC1.lt; omega
  have hRg : w.heap.size ≠ w.heap.size + 1 := by omega
  clear hk hg1
  go_upto_region 3 with (fail)
  obtain ⟨W, hW⟩ : ∃ W, W = w1.alloc (.cells #[.int .i64 r, .string ⟨a.toArray⟩, .string ⟨b.toArray⟩] 31) := ⟨_, rfl⟩
  have hS : W.heap[w1.heap.size]? = some (.cells #[.int .i64 r, .string ⟨a.toArray⟩, .string ⟨b.toArray⟩] 31 (0, 0)) := by rw [hW]; exact blk_new _ _
  have hR : W.heap[w.heap.size]? = some (.cells #[.int .i64 0, .string ⟨#[]⟩, .string ⟨#[]⟩] 31 (0, 0)) := by rw [hW]; exact blk_alloc HK.out _
  have hBW : Below w.heap.size w W := by rw [hW]; exact below_alloc hB1.out _
  rw [← hW] at hCC hCCd ⊢
  clear hW
  obtain ⟨S, hSe⟩ : ∃ S, S = w1.heap.size := ⟨_, rfl⟩
  rw [← hSe] at hS hRS hgS ⊢
  clear hSe hB1 HK hC1
  have hI : StI (w.heap.size + 1 + 1) w (w.heap.size + 1) w.heap.size S (0 + 200) 1000 W := ⟨⟨hBW.os, hBW.tape, hBW.output, hBW.size, fun k hk _ => hBW.block k hk⟩, hCC, hR, r, a, b, hr, hl, hS⟩
  obtain ⟨c10, c11, c12, f10, f11, f12⟩ := cells3 hS
  have HII := Lib.hid hI
  have HKD := Lib.hid (blk_drew hS)
  have HK0 := Lib.hid hS
  have s1 : IntKind.i64.wrap ((b.length : Int) + 1) = (b.length : Int) + 1 := IntWalk.i64_in _ (by omega)
  have hwg : W.heap.size ≠ w.heap.size + 1 := hI.fresh.2.2.2.2
  have hSlt : S < W.heap.size := blk_lt hS
  have hSa : W.heap.size ≠ S := by omega
  clear hS hR hBW hI
  obtain ⟨g, hge⟩ : ∃ g, g = w.heap.size + 1 := ⟨_, rfl⟩
  have hRg' : w.heap.size ≠ g := by omega
  obtain ⟨R, hRe⟩ : ∃ R, R = w.heap.size := ⟨_, rfl⟩
  rw [← hge] at hCCd hgS HII hwg ⊢
  rw [← hRe] at HII hRS hRg' ⊢
  have hRw : R = w.heap.size := hRe
  have HRE := Lib.hid hRe
  have HGE := Lib.hid hge
  clear hRe hge hRg hRw hCC
  have hC := hCCd
  go_cut [5, 6] (fun v5 v6 W => Rel9 (g + 1) w g R S (0 + 200 + 2) 1000 v5 v6 W)
  case first =>
    go_region_held3 (fun W => W.cell? ⟨S, 0, none⟩ = some (.int .i64 r) ∧ W.cell? ⟨S, 1, none⟩ = some (.string ⟨a.toArray⟩) ∧ W.cell? ⟨S, 2, none⟩ = some (.string ⟨b.toArray⟩)) (first | exact ⟨c10, c11, c12⟩ | exact ⟨d10, d11, d12⟩ | exact ⟨d20, d21, d22⟩ | (go_simp; done) | go_keep) (first | (go_at_call 42; first | (refine (pick _ _ g _ _ hC (by omega) (by first | omega | (rw [s1]; omega))).mono ?_; rintro e w4 ⟨m, hm, rfl, hC4, hg4⟩; have hk4 := g_blk hg4 HKD.out hgS; obtain ⟨d10, d11, d12, e10, e11, e12⟩ := cells3 hk4; have hS4 := blk_lt hk4; have hI4 := Lib.hid ((HII.out.below (below_drew (Below.refl _ _))).later hg4 hC4 hRg' hgS); have hq4 := True.intro; clear hg4) | (refine (pick _ _ g _ _ ((HII.out.cur.alloc _).drewN 1) (by omega) (by first | omega | (rw [s1]; omega))).mono ?_; rintro e w4 ⟨m, hm, rfl, hC4, hg4⟩; have hk4 := g_blk hg4 (blk_drew (blk_alloc HK0.out _)) hgS; obtain ⟨d10, d11, d12, e10, e11, e12⟩ := cells3 hk4; have hS4 := blk_lt hk4; have hI4 := Lib.hid ((HII.out.below (below_drew (below_alloc (Below.refl _ _) _))).later hg4 hC4 hRg' hgS); have hq4 := g_blk hg4 (blk_drew (blk_new W _)) hwg; clear hg4)) | (go_at_call 12; refine (crash_any r a b _ 1000 hr hl (by omega) _).mono ?_; rintro e w5 ⟨r', a', b', ok, hr', hl', rfl, hb5⟩; first | (have hk5 := blk_below (blk_alloc hk4 _) hb5; have hq5 := blk_below (blk_new _ _) hb5; obtain ⟨d20, d21, d22, e20, e21, e22⟩ := cells3 hk5; have hS5 := blk_lt hk5; obtain ⟨q20, q21, q22, p20, p21, p22⟩ := cells3 hq5; have hI5 := Lib.hid ((hI4.out.below (below_alloc (Below.refl _ _) _)).below hb5); clear hb5) | (have hq5 := blk_below hq4 hb5; have hk5 := blk_below hk4 hb5; obtain ⟨d20, d21, d22, e20, e21, e22⟩ := cells3 hk5; have hS5 := blk_lt hk5; obtain ⟨q20, q21, q22, p20, p21, p22⟩ := cells3 hq5; have hI5 := Lib.hid (hI4.out.below hb5); clear hb5) | (have hk5 := blk_below hk4 hb5; obtain ⟨d20, d21, d22, e20, e21, e22⟩ := cells3 hk5; have hS5 := blk_lt hk5; have hI5 := Lib.hid (hI4.out.below hb5); clear hb5)))
    all_goals
      clear c10 c11 c12 f10 f11 f12 d10 d11 d12 e10 e11 e12 HK0 HKD hC s1
      go_wp2_with fail
      go_meet
      case rel =>
        first
          | exact rel9_new hI5.out hr' hl' ok
          | exact rel9_set hI5.out hI4.out rfl hq5 hr' hl' ok
          | exact rel9_set hI5.out HII.out rfl hq5 hr' hl' ok
  case rest =>
    clear c10 c11 c12 f10 f11 f12 HKD HK0 hC s1 hl hr
    obtain ⟨q, ok, rfl, rfl, HQ⟩ := hcut
    obtain ⟨hI, hqg, r2, a2, b2, hr2, hl2, hkq⟩ := HQ.out
    obtain ⟨c10, c11, c12, f10, f11, f12⟩ := cells3 hkq
    obtain ⟨r3, a3, b3, hr3, hl3, hkk⟩ := hI.st
    obtain ⟨d10, d11, d12, g10, g11, g12⟩ := cells3 hkk
    obtain ⟨x10, x11, x12, v10, v11, v12⟩ := cells3 hI.res
    have hBl : Below w.heap.size w wc := ⟨hI.grown.os, hI.grown.tape, hI.grown.output, hI.grown.size, fun k hk => hI.grown.block k hk (fun e => by cases e; have := HGE.out; omega)⟩
    have HR := Lib.hid hI.res
    have HBL := Lib.hid hBl
    clear HQ hI hkq hkk hBl
    cases ok with
    | false =>
      go_wp2
      exact end_c rfl (blk_set3 HR.out _ _ _) rfl ⟨r3, a3, b3, hr3, hl3, rfl, below_set3 HBL.out (by rw [HRE.out]; omega) _ _ _⟩
    | true =>
      go_wp2
      exact end_c rfl (blk_set3 HR.out _ _ _) rfl ⟨r2, a2, b2, hr2, hl2, rfl, below_set3 HBL.out (by rw [HRE.out]; omega) _ _ _⟩
end Go.Proofs.YtjhaaaljlpcnaaaDoor.U
