/- Walks of the program's readAct and ReadAct: whatever the split and the reading of its words give; the library's variables as the program lays them. -/
import Derived.Test.YtjhaaaljlpcnaaaDoorA
import Derived.Lib.Hide
import Derived.StillTailTactics
namespace Go.Proofs.YtjhaaaljlpcnaaaDoor.Y
open Go.RowKit Go.Proofs.YtjhaaaljlpcnaaaDoorW.PrintWords Go.Proofs.YtjhaaaljlpcnaaaDoorW.PrintMore Go.Proofs.YtjhaaaljlpcnaaaDoor.X Go.Proofs.YtjhaaaljlpcnaaaDoor.A

theorem cellN {w W : World} {k : IntKind} {A : Option Addr} {n : Nat} {xs : List Int} (hr : Kd.C (Kd.int k) w A n xs) (hb : Below w.heap.size w W) (i : Nat) (hi : i < n) : ∃ ad, A = some ad ∧ W.cell? (ad.add i) = some (.int k (xs.getD i 0)) := by
  obtain ⟨ad, e, hx⟩ := Kd.at_int hr (i : Int) (by omega) (by omega)
  exact ⟨ad, e, (hb.cell (World.block_lt_of_cell? w _ hx)).trans hx⟩

theorem still_tail {P : Program} {id : Nat} {Q : Exit → Act → World → Prop} {a : Act} {w : World} {l : List Oper} (n : Nat) (hm : P.follows .mixedOrders = true) (hB : Region.lexTailB .any l.toArray n = true) (W : World) (hW : W = w.drew)
    (h : wpStill P l.toArray W (fun a' => wpList P l.toArray Q (l.drop n) a' W) (l.take n) a) : (Code.region id l.toArray true).wp P Q a w := by
  subst hW
  exact wp_region_still_tail n hm hB h

theorem bcell {W w1 : World} (hb : Below W.heap.size W w1) : (∀ b o, b < W.heap.size → w1.cell? ⟨b, o, none⟩ = W.cell? ⟨b, o, none⟩) ∧ (∀ b o, b < W.heap.size → w1.frozen? ⟨b, o, none⟩ = W.frozen? ⟨b, o, none⟩) :=
  ⟨fun b o h => hb.cell (p := ⟨b, o, none⟩) h, fun b o h => hb.frozen (p := ⟨b, o, none⟩) h⟩

abbrev agg7 (a0 a1 a2 a3 a4 a5 a6 : Int) : Value := .agg #[.int .i64 a0, .int .i64 a1, .int .i64 a2, .int .i64 a3, .int .i64 a4, .int .i64 a5, .int .i64 a6]

theorem cells7 {W : World} {b e : Nat} {ok : Nat → Prop} {v : Value} {n0 n1 n2 n3 n4 n5 n6 : Int} (hr : Kd.R (Kd.int .i64) e W b ok v [n0, n1, n2, n3, n4, n5, n6]) :
    ∃ g c, v = .slice (some ⟨g, 0, none⟩) 7 c ∧ 7 ≤ c ∧ Kd.C (Kd.int .i64) W (some ⟨g, 0, none⟩) 7 [n0, n1, n2, n3, n4, n5, n6] ∧ W.cell? ⟨g, 0, none⟩ = some (.int .i64 n0) ∧ W.cell? ⟨g, 1, none⟩ = some (.int .i64 n1) ∧ W.cell? ⟨g, 2, none⟩ = some (.int .i64 n2) ∧ W.cell? ⟨g, 3, none⟩ = some (.int .i64 n3) ∧ W.cell? ⟨g, 4, none⟩ = some (.int .i64 n4) ∧ W.cell? ⟨g, 5, none⟩ = some (.int .i64 n5) ∧ W.cell? ⟨g, 6, none⟩ = some (.int .i64 n6) := by
  obtain ⟨A, c, rfl, hl, h⟩ := Kd.R_reads hr
  obtain ⟨ad, e, _⟩ := cellN h (Below.refl _ _) 0 (by simp)
  subst e
  obtain ⟨g, rfl⟩ := Kd.R_head hr
  have k : ∀ i, i < 7 → W.cell? ⟨g, i, none⟩ = some (.int .i64 ([n0, n1, n2, n3, n4, n5, n6].getD i 0)) := fun i hi => by
    obtain ⟨ad', e, hx⟩ := cellN h (Below.refl _ _) i hi
    cases e
    rw [add_plain] at hx
    exact hx
  exact ⟨g, c, rfl, hl, h, k 0 (by decide), k 1 (by decide), k 2 (by decide), k 3 (by decide), k 4 (by decide), k 5 (by decide), k 6 (by decide)⟩

/-- What readAct answers, as the callees tell it. -/
theorem readAct_bad (k : Nat) (s : ByteArray) (ws : List ByteArray) (n : List Int) (w : World) (hG : GL w) (hs : strings_Split.f s ⟨#[32]⟩ = some ws) (hn : impl_readInts.f k ws = some (n, false)) :
    Calls Tryd.prog 40 #[.string s] w fun e w' => e = .returned (.tuple #[agg7 0 0 0 0 0 0 0, .bool false]) ∧ Below w.heap.size w w' := by
  go_enter Tryd.func40, Tryd.ntmps40
  go_wp2_with (first | (go_at_call 60; refine (strings_Split.calls s _ ws _ (hG.below (below_alloc (Below.refl _ _) _)) hs).mono ?_; rintro e w1 ⟨v1, rfl, hr1, hb1⟩; obtain ⟨hc1, hf1⟩ := bcell hb1; have hB1 : Below w.heap.size w w1 := below_then (below_alloc (Below.refl _ _) _) (by simp) hb1; have hz1 : w.heap.size < w1.heap.size := by (have := hb1.size; simp at this; omega)) | (go_at_call 59; obtain ⟨A1, c1, rfl, hl1, hC1⟩ := Kd.R_reads hr1; refine (impl_readInts.calls k _ _ ws n false _ ((hG.below (below_alloc (Below.refl _ _) _)).below hb1) hC1 hl1 hn).mono ?_; rintro e w2 ⟨v2, rfl, hr2, hb2⟩; obtain ⟨hc2, hf2⟩ := bcell hb2; have hB2 : Below w.heap.size w w2 := below_then hB1 hB1.size hb2; have hz2 : w.heap.size < w2.heap.size := Nat.lt_of_lt_of_le hz1 hb2.size))
  refine bodyPost_ret (v := .tuple #[agg7 0 0 0 0 0 0 0, .bool false]) (by simp [results, Tryd.results40, go_sem, hc1, hc2, hz1]) rfl ⟨rfl, ?_⟩
  repeat refine Below.setCell ?_ (by simp) _
  exact hB2

theorem readAct_len (k : Nat) (s : ByteArray) (ws : List ByteArray) (n : List Int) (w : World) (hG : GL w) (hs : strings_Split.f s ⟨#[32]⟩ = some ws) (hn : impl_readInts.f k ws = some (n, true)) (hl : n.length ≠ 7) :
    Calls Tryd.prog 40 #[.string s] w fun e w' => e = .returned (.tuple #[agg7 0 0 0 0 0 0 0, .bool false]) ∧ Below w.heap.size w w' := by
  have hl1 : ((n.length : Int) == 7) = false := by simp; omega
  have hl2 : ((n.length : Int) != 7) = true := by simp; omega
  clear hl
  go_enter Tryd.func40, Tryd.ntmps40
  go_wp2_with (first | (go_at_call 60; refine (strings_Split.calls s _ ws _ (hG.below (below_alloc (Below.refl _ _) _)) hs).mono ?_; rintro e w1 ⟨v1, rfl, hr1, hb1⟩; obtain ⟨hc1, hf1⟩ := bcell hb1; have hB1 : Below w.heap.size w w1 := below_then (below_alloc (Below.refl _ _) _) (by simp) hb1; have hz1 : w.heap.size < w1.heap.size := by (have := hb1.size; simp at this; omega)) | (go_at_call 59; obtain ⟨A1, c1, rfl, hl1, hC1⟩ := Kd.R_reads hr1; refine (impl_readInts.calls k _ _ ws n true _ ((hG.below (below_alloc (Below.refl _ _) _)).below hb1) hC1 hl1 hn).mono ?_; rintro e w2 ⟨v2, rfl, hr2, hb2⟩; obtain ⟨A2, c2, rfl, hl2', hC2⟩ := Kd.R_reads hr2; obtain ⟨hc2, hf2⟩ := bcell hb2; have hB2 : Below w.heap.size w w2 := below_then hB1 hB1.size hb2; have hz2 : w.heap.size < w2.heap.size := Nat.lt_of_lt_of_le hz1 hb2.size))
  refine bodyPost_ret (v := .tuple #[agg7 0 0 0 0 0 0 0, .bool false]) (by simp [results, Tryd.results40, go_sem, hc1, hc2, hz1]) rfl ⟨rfl, ?_⟩
  repeat refine Below.setCell ?_ (by simp) _
  exact hB2

theorem readAct_all (k : Nat) (s : ByteArray) (ws : List ByteArray) (n : List Int) (w : World) (hG : GL w) (hs : strings_Split.f s ⟨#[32]⟩ = some ws) (hn : impl_readInts.f k ws = some (n, true)) (hl : n.length = 7) (hw : impl_allWithin.f k n 0 999 = some false) :
    Calls Tryd.prog 40 #[.string s] w fun e w' => e = .returned (.tuple #[agg7 0 0 0 0 0 0 0, .bool false]) ∧ Below w.heap.size w w' := by
  have hl1 : ((n.length : Int) == 7) = true := by simp; omega
  have hl2 : ((n.length : Int) != 7) = false := by simp; omega
  clear hl
  go_enter Tryd.func40, Tryd.ntmps40
  go_wp2_with (first | (go_at_call 60; refine (strings_Split.calls s _ ws _ (hG.below (below_alloc (Below.refl _ _) _)) hs).mono ?_; rintro e w1 ⟨v1, rfl, hr1, hb1⟩; obtain ⟨hc1, hf1⟩ := bcell hb1; have hB1 : Below w.heap.size w w1 := below_then (below_alloc (Below.refl _ _) _) (by simp) hb1; have hz1 : w.heap.size < w1.heap.size := by (have := hb1.size; simp at this; omega)) | (go_at_call 59; obtain ⟨A1, c1, rfl, hl1, hC1⟩ := Kd.R_reads hr1; refine (impl_readInts.calls k _ _ ws n true _ ((hG.below (below_alloc (Below.refl _ _) _)).below hb1) hC1 hl1 hn).mono ?_; rintro e w2 ⟨v2, rfl, hr2, hb2⟩; obtain ⟨A2, c2, rfl, hl2', hC2⟩ := Kd.R_reads hr2; obtain ⟨hc2, hf2⟩ := bcell hb2; have hB2 : Below w.heap.size w w2 := below_then hB1 hB1.size hb2; have hz2 : w.heap.size < w2.heap.size := Nat.lt_of_lt_of_le hz1 hb2.size) | (go_at_call 61; refine (impl_allWithin.calls k _ _ n 0 999 false _ hC2 hl2' hw).mono ?_; rintro e w3 ⟨rfl, ⟨nd, rfl⟩⟩))
  refine bodyPost_ret (v := .tuple #[agg7 0 0 0 0 0 0 0, .bool false]) (by simp [results, Tryd.results40, go_sem, hc1, hc2, hz1]) rfl ⟨rfl, ?_⟩
  repeat refine Below.setCell ?_ (by simp) _
  exact pw_below_drewN hB2 _

set_option maxRecDepth 100000 in
theorem readAct_yes (k : Nat) (s : ByteArray) (ws : List ByteArray) (n0 n1 n2 n3 n4 n5 n6 : Int) (w : World) (hG : GL w) (hs : strings_Split.f s ⟨#[32]⟩ = some ws) (hn : impl_readInts.f k ws = some ([n0, n1, n2, n3, n4, n5, n6], true)) (hw : impl_allWithin.f k [n0, n1, n2, n3, n4, n5, n6] 0 999 = some true) :
    Calls Tryd.prog 40 #[.string s] w fun e w' => e = .returned (.tuple #[agg7 n0 n1 n2 n3 n4 n5 n6, .bool true]) ∧ Below w.heap.size w w' := by
  go_enter Tryd.func40, Tryd.ntmps40
  go_wp2_with (first | (go_at_call 60; refine (strings_Split.calls s _ ws _ (hG.below (below_alloc (Below.refl _ _) _)) hs).mono ?_; rintro e w1 ⟨v1, rfl, hr1, hb1⟩; obtain ⟨hc1, hf1⟩ := bcell hb1; have hB1 : Below w.heap.size w w1 := below_then (below_alloc (Below.refl _ _) _) (by simp) hb1; have hz1 : w.heap.size < w1.heap.size := by (have := hb1.size; simp at this; omega)) | (go_at_call 59; obtain ⟨A1, c1, rfl, hl1, hC1⟩ := Kd.R_reads hr1; refine (impl_readInts.calls k _ _ ws _ true _ ((hG.below (below_alloc (Below.refl _ _) _)).below hb1) hC1 hl1 hn).mono ?_; rintro e w2 ⟨v2, rfl, hr2, hb2⟩; obtain ⟨g, c2, rfl, hl2', hC2, hx0, hx1, hx2, hx3, hx4, hx5, hx6⟩ := cells7 hr2; obtain ⟨hc2, hf2⟩ := bcell hb2; have hB2 : Below w.heap.size w w2 := below_then hB1 hB1.size hb2; have hz2 : w.heap.size < w2.heap.size := Nat.lt_of_lt_of_le hz1 hb2.size) | (go_at_call 61; refine (impl_allWithin.calls k _ _ _ 0 999 true _ hC2 hl2' hw).mono ?_; rintro e w3 ⟨rfl, ⟨nd, rfl⟩⟩))
  obtain ⟨W3, hW3⟩ : ∃ W, W = (w2.drewN nd).drew := ⟨_, rfl⟩
  obtain ⟨y0, y1, y2, y3, y4, y5, y6, hc3, hf3, hB3⟩ : W3.cell? ⟨g, 0, none⟩ = some (.int .i64 n0) ∧ W3.cell? ⟨g, 1, none⟩ = some (.int .i64 n1) ∧ W3.cell? ⟨g, 2, none⟩ = some (.int .i64 n2) ∧ W3.cell? ⟨g, 3, none⟩ = some (.int .i64 n3) ∧ W3.cell? ⟨g, 4, none⟩ = some (.int .i64 n4) ∧ W3.cell? ⟨g, 5, none⟩ = some (.int .i64 n5) ∧ W3.cell? ⟨g, 6, none⟩ = some (.int .i64 n6) ∧ (∀ b o, b < w1.heap.size → W3.cell? ⟨b, o, none⟩ = w1.cell? ⟨b, o, none⟩) ∧ (∀ b o, b < w1.heap.size → W3.frozen? ⟨b, o, none⟩ = w1.frozen? ⟨b, o, none⟩) ∧ Below w.heap.size w W3 := by
    subst hW3
    exact ⟨hx0, hx1, hx2, hx3, hx4, hx5, hx6, hc2, hf2, below_drew (pw_below_drewN hB2 nd)⟩
  clear hx0 hx1 hx2 hx3 hx4 hx5 hx6
  refine still_tail 22 (by kernel_rfl) (by kernel_rfl) W3 hW3 ?_
  clear hW3
  simp only [List.take_succ_cons, List.take_zero, List.drop_succ_cons, List.drop_zero]
  repeat still_step
  repeat still_step
  refine wpStill_nil ?_
  go_wp2
  refine bodyPost_ret (v := .tuple #[agg7 n0 n1 n2 n3 n4 n5 n6, .bool true]) (by simp [results, Tryd.results40, go_sem, hc3, hc1, hz1]) rfl ⟨rfl, ?_⟩
  repeat refine Below.setCell ?_ (by simp) _
  exact hB3

/-- ReadAct hands on what readAct answers. -/
theorem readActP {a0 a1 a2 a3 a4 a5 a6 : Int} {r : Bool} (s : ByteArray) (w : World) (hG : GL w)
    (h : ∀ W, GL W → Calls Tryd.prog 40 #[.string s] W fun e w' => e = .returned (.tuple #[agg7 a0 a1 a2 a3 a4 a5 a6, .bool r]) ∧ Below W.heap.size W w') :
    Calls Tryd.prog 7 #[.string s] w fun e w' => e = .returned (.tuple #[agg7 a0 a1 a2 a3 a4 a5 a6, .bool r]) ∧ Below w.heap.size w w' := by
  go_enter Tryd.func7, Tryd.ntmps7
  go_wp2_with (first | (go_at_call 40; refine (h _ (hG.below (below_alloc (Below.refl _ _) _))).mono ?_; rintro e w1 ⟨rfl, hb1⟩; obtain ⟨hc1, hf1⟩ := bcell hb1; have hB1 : Below w.heap.size w w1 := below_then (below_alloc (Below.refl _ _) _) (by simp) hb1; have hz1 : w.heap.size < w1.heap.size := by (have := hb1.size; simp at this; omega)))
  refine bodyPost_ret (v := .tuple #[agg7 a0 a1 a2 a3 a4 a5 a6, .bool r]) (by simp [results, Tryd.results7, go_sem, hc1]) rfl ⟨rfl, ?_⟩
  repeat refine Below.setCell ?_ (by simp) _
  exact hB1

theorem eqWorkAct_calls (a0 a1 a2 a3 a4 a5 a6 b0 b1 b2 b3 b4 b5 b6 : Int) (w : World) :
    Calls Tryd.prog 8 #[agg7 a0 a1 a2 a3 a4 a5 a6, agg7 b0 b1 b2 b3 b4 b5 b6] w fun e w' => e = .returned (.bool (decide (a0 = b0 ∧ a1 = b1 ∧ a2 = b2 ∧ a3 = b3 ∧ a4 = b4 ∧ a5 = b5 ∧ a6 = b6))) ∧ Below w.heap.size w w' := by
  go_enter Tryd.func8, Tryd.ntmps8
  go_wp2
  all_goals
    go_ret
    exact ⟨by simp_all, below_alloc (below_alloc (Below.refl _ _) _) _⟩
end Go.Proofs.YtjhaaaljlpcnaaaDoor.Y
