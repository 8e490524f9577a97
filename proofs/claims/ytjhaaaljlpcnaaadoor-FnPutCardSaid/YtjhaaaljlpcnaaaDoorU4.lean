/- The draws of stores: what the drawing functions give: some store, text or number within bounds; nothing that was there turns. Conditions: the bytes of the code read as bytes. -/
import Derived.Test.YtjhaaaljlpcnaaaDoorU3
namespace Go.Proofs.YtjhaaaljlpcnaaaDoor.U
set_option linter.unusedVariables false
set_option linter.unusedSimpArgs false
open Go.RowKit Go.Proofs.YtjhaaaljlpcnaaaDoorW.PrintWords Go.Proofs.YtjhaaaljlpcnaaaDoor.S

/-- The code's bytes. -/
def Code (w : World) (A : Option Addr) (n : Nat) (xs : List Int) : Prop := ReadsInt w .u8 A n xs ∧ ∀ x ∈ xs, 0 ≤ x ∧ x ≤ 255
theorem Code.below {w w' : World} {A : Option Addr} {n : Nat} {xs : List Int} (h : Code w A n xs) (hb : Below w.heap.size w w') : Code w' A n xs := ⟨h.1.below hb, h.2⟩
theorem Code.cur {w W : World} {A : Option Addr} {n : Nat} {xs : List Int} (h : Code w A n xs) (hb : Below w.heap.size w W) (c : Nat) : Cur (W.heap.size + 1) (W.alloc (.cells #[.slice A n c, .int .i64 0, .int .u64 0] 64)) W.heap.size 0 := by
  refine ⟨A, n, c, xs, 0, 0, blk_new W _, (h.1.below hb).below (below_alloc (Below.refl _ _) _), h.2, ?_, Nat.le_refl _, by omega, by simp, by omega, by omega⟩
  intro hn ad e
  obtain ⟨ad', e', hx⟩ := (h.1.below hb).2.2 hn
  have he : ad' = ad := Option.some.inj (e'.symm.trans e)
  subst he
  have hlt := World.block_lt_of_cell? W _ (hx 0 hn)
  have e2 : (ad'.add 0).block = ad'.block := by unfold Addr.add; split <;> rfl
  rw [e2] at hlt
  omega
theorem below_grownBy {B g : Nat} {w W w1 : World} (h : Below B w W) (hg : W.grownBy w1 (some g)) (h1 : B ≤ W.heap.size) (h2 : B ≤ g) : Below B w w1 := h.grown hg h1 (fun k e => by cases e; exact h2)

def StP (N : Nat) (w : World) (e : Ending) (w' : World) : Prop := ∃ (r : Int) (a b : List UInt8), i64r r ∧ a.length + b.length ≤ N ∧ e = .returned (S.store r a b) ∧ Below w.heap.size w w'
def StIP (N : Nat) (w : World) (e : Ending) (w' : World) : Prop := ∃ (r : Int) (a b : List UInt8) (k : Int), i64r r ∧ a.length + b.length ≤ N ∧ e = .returned (.tuple #[S.store r a b, .int .i64 k]) ∧ Below w.heap.size w w'
def StSP (N : Nat) (w : World) (e : Ending) (w' : World) : Prop := ∃ (r : Int) (a b t : List UInt8), i64r r ∧ a.length + b.length ≤ N ∧ t.length ≤ 61 ∧ e = .returned (.tuple #[S.store r a b, .string ⟨t.toArray⟩]) ∧ Below w.heap.size w w'
def SP (N : Nat) (w : World) (e : Ending) (w' : World) : Prop := ∃ (t : List UInt8), t.length ≤ N ∧ e = .returned (.string ⟨t.toArray⟩) ∧ Below w.heap.size w w'
def ISP (w : World) (e : Ending) (w' : World) : Prop := ∃ (k : Int) (t : List UInt8), 0 ≤ k ∧ k ≤ 100 ∧ t.length ≤ 61 ∧ e = .returned (.tuple #[.int .i64 k, .string ⟨t.toArray⟩]) ∧ Below w.heap.size w w'
def IP (w : World) (e : Ending) (w' : World) : Prop := ∃ (k : Int), -1 ≤ k ∧ k ≤ 4001 ∧ e = .returned (.int .i64 k) ∧ Below w.heap.size w w'

theorem drawGood (A : Option Addr) (n c : Nat) (xs : List Int) (w : World) (h : Code w A n xs) : Calls Tryd.prog 54 #[.slice A n c] w (StP 1000 w) := by
  have hc := h.cur (below_alloc (Below.refl _ _) (.cells #[.int .i64 0, .string ⟨#[]⟩, .string ⟨#[]⟩] 31)) c
  have hb0 := below_alloc (below_alloc (Below.refl w.heap.size w) (.cells #[.int .i64 0, .string ⟨#[]⟩, .string ⟨#[]⟩] 31)) (.cells #[.slice A n c, .int .i64 0, .int .u64 0] 64)
  rw [World.size_alloc] at hc
  have HB0 := Lib.hid hb0
  have HC := Lib.hid hc
  clear hc hb0 h
  go_enter Tryd.func54, Tryd.ntmps54
  go_wp2_with fail
  refine (store_draw _ _ _ _ HC.out (by omega)).mono ?_
  rintro e w1 ⟨r, a, b, hr, hl, rfl, hC1, hg1⟩
  have hB1 := Lib.hid (below_grownBy HB0.out hg1 (by simp; omega) (by omega))
  have hk := g_blk hg1 (blk_alloc (blk_new w _) _) (by omega)
  obtain ⟨c10, c11, c12, f10, f11, f12⟩ := cells3 hk
  have HK := Lib.hid hk
  clear hk hg1 hC1
  go_wp2
  exact end_c rfl (blk_set3 HK.out _ _ _) rfl ⟨r, a, b, hr, hl, rfl, below_set3 hB1.out (Nat.le_refl _) _ _ _⟩

theorem drawTexts (A : Option Addr) (n c : Nat) (xs : List Int) (w : World) (h : Code w A n xs) : Calls Tryd.prog 30 #[.slice A n c] w (StP 1000 w) := by
  have h1 := h.below (below_alloc (Below.refl _ _) (.cells #[.int .i64 0, .string ⟨#[]⟩, .string ⟨#[]⟩] 31))
  have H := Lib.hid h1
  clear h1 h
  go_enter Tryd.func30, Tryd.ntmps30
  go_wp2_with fail
  refine (drawGood A n c xs _ H.out).mono ?_
  rintro e w1 ⟨r, a, b, hr, hl, rfl, hb⟩
  have hk := blk_below (blk_new w _) hb
  have hB := Lib.hid (below_then (below_alloc (Below.refl w.heap.size w) _) (by simp) hb)
  obtain ⟨c10, c11, c12, f10, f11, f12⟩ := cells3 hk
  have HK := Lib.hid hk
  clear hk hb
  go_wp2
  exact end_c rfl (blk_set3 HK.out _ _ _) rfl ⟨r, a, b, hr, hl, rfl, below_set3 hB.out (Nat.le_refl _) _ _ _⟩

theorem drawSync (A : Option Addr) (n c : Nat) (xs : List Int) (w : World) (h : Code w A n xs) : Calls Tryd.prog 35 #[.slice A n c] w (StP 1000 w) := by
  have h1 := h.below (below_alloc (Below.refl _ _) (.cells #[.int .i64 0, .string ⟨#[]⟩, .string ⟨#[]⟩] 31))
  have H := Lib.hid h1
  clear h1 h
  go_enter Tryd.func35, Tryd.ntmps35
  go_wp2_with fail
  refine (drawGood A n c xs _ H.out).mono ?_
  rintro e w1 ⟨r, a, b, hr, hl, rfl, hb⟩
  have hk := blk_below (blk_new w _) hb
  have hB := Lib.hid (below_then (below_alloc (Below.refl w.heap.size w) _) (by simp) hb)
  obtain ⟨c10, c11, c12, f10, f11, f12⟩ := cells3 hk
  have HK := Lib.hid hk
  clear hk hb
  go_wp2
  exact end_c rfl (blk_set3 HK.out _ _ _) rfl ⟨r, a, b, hr, hl, rfl, below_set3 hB.out (Nat.le_refl _) _ _ _⟩

theorem drawNew (A : Option Addr) (n c : Nat) (xs : List Int) (w : World) (h : Code w A n xs) : Calls Tryd.prog 32 #[.slice A n c] w (IP w) := by
  have hc := h.cur (Below.refl _ _) c
  have hb0 := below_alloc (Below.refl w.heap.size w) (.cells #[.slice A n c, .int .i64 0, .int .u64 0] 64)
  have HB0 := Lib.hid hb0
  have HC := Lib.hid hc
  clear hc hb0 h
  go_enter Tryd.func32, Tryd.ntmps32
  go_wp2_with fail
  refine (among _ _ _ _ (some ⟨w.heap.size + 1, 0, none⟩) 5 5 [-1, 0, 50, 4000, 4001] ?_ ?_ (by omega) (by omega) (HC.out.alloc _) (by omega)).mono ?_
  · refine ⟨rfl, by omega, fun _ => ⟨_, rfl, fun j hj => ?_⟩⟩
    rw [add_plain, new_cell1]
    match j, hj with
    | 0, _ => rfl
    | 1, _ => rfl
    | 2, _ => rfl
    | 3, _ => rfl
    | 4, _ => rfl
  · intro ad e
    cases e
    simp
  rintro e w1 ⟨x, hx, rfl, hC1, hg1⟩
  have hB1 := Lib.hid (below_grownBy (below_alloc HB0.out _) hg1 (by simp; omega) (Nat.le_refl _))
  have hx1 : -1 ≤ x ∧ x ≤ 4001 := by
    simp at hx
    omega
  clear hx hg1
  go_wp2
  go_ret
  exact ⟨x, hx1.1, hx1.2, rfl, hB1.out⟩

theorem drawFrame (A : Option Addr) (n c : Nat) (xs : List Int) (w : World) (h : Code w A n xs) : Calls Tryd.prog 27 #[.slice A n c] w (ISP w) := by
  have hc := h.cur (Below.refl _ _) c
  have hb0 := below_alloc (Below.refl w.heap.size w) (.cells #[.slice A n c, .int .i64 0, .int .u64 0] 64)
  have HB0 := Lib.hid hb0
  have HC := Lib.hid hc
  clear hc hb0 h
  go_enter Tryd.func27, Tryd.ntmps27
  go_wp2_with fail
  refine (among _ _ _ _ (some ⟨w.heap.size + 1, 0, none⟩) 5 5 [0, 1, 7, 99, 100] ?_ ?_ (by omega) (by omega) (HC.out.alloc _) (by omega)).mono ?_
  · refine ⟨rfl, by omega, fun _ => ⟨_, rfl, fun j hj => ?_⟩⟩
    rw [add_plain, new_cell1]
    match j, hj with
    | 0, _ => rfl
    | 1, _ => rfl
    | 2, _ => rfl
    | 3, _ => rfl
    | 4, _ => rfl
  · intro ad e
    cases e
    simp
  rintro e w1 ⟨x, hx, rfl, hC1, hg1⟩
  have hB1 := Lib.hid (below_grownBy (below_alloc HB0.out _) hg1 (by simp; omega) (Nat.le_refl _))
  have hx1 : 0 ≤ x ∧ x ≤ 100 := by
    simp at hx
    omega
  clear hx hg1
  go_wp2_with fail
  refine (text _ _ _ _ hC1 (by omega)).mono ?_
  rintro e w2 ⟨s, hs, rfl, hC2, hg2⟩
  have hB2 := Lib.hid (below_grownBy hB1.out hg2 hB1.out.size (Nat.le_refl _))
  clear hg2
  go_wp2
  go_ret2
  exact ⟨x, s.data.toList, hx1.1, hx1.2, hs, rfl, hB2.out⟩

theorem drawRead (A : Option Addr) (n c : Nat) (xs : List Int) (w : World) (h : Code w A n xs) : Calls Tryd.prog 20 #[.slice A n c] w (SP 1000 w) := by
  have hc := h.cur (Below.refl _ _) c
  have hb0 := below_alloc (Below.refl w.heap.size w) (.cells #[.slice A n c, .int .i64 0, .int .u64 0] 64)
  have HB0 := Lib.hid hb0
  have HC := Lib.hid hc
  clear hc hb0 h
  go_enter Tryd.func20, Tryd.ntmps20
  go_wp2_with fail
  refine (store_draw _ _ _ _ HC.out (by omega)).mono ?_
  rintro e w1 ⟨r, a, b, hr, hl, rfl, hC1, hg1⟩
  have hB1 := Lib.hid (below_grownBy HB0.out hg1 (by simp) (Nat.le_refl _))
  clear hg1 hC1
  go_wp2
  go_ret
  exact ⟨a ++ b, by simp; omega, congrArg _ (congrArg Value.string (Y.mk_append a b)), below_alloc hB1.out _⟩
end Go.Proofs.YtjhaaaljlpcnaaaDoor.U
