/- The draws: what the cursor's store does: some store whose strings are bounded, and only the cursor's own block turns. Conditions: the cursor's block and its bytes as 'Cur' says. -/
import Derived.Test.YtjhaaaljlpcnaaaDoorU2
import Derived.Test.YtjhaaaljlpcnaaaDoorS12
import Derived.Deep.DeepCutAuto
namespace Go.Proofs.YtjhaaaljlpcnaaaDoor.U
set_option linter.unusedVariables false
set_option linter.unusedSimpArgs false
open Go.RowKit Go.Proofs.YtjhaaaljlpcnaaaDoorW.PrintWords Go.Proofs.YtjhaaaljlpcnaaaDoor.S

theorem g_blk {W w1 : World} {g k : Nat} {o : Obj} (h : W.grownBy w1 (some g)) (hb : W.heap[k]? = some o) (hne : k ≠ g) : w1.heap[k]? = some o := (h.block k (blk_lt hb) (fun e => hne (Option.some.inj e))).trans hb
theorem grown_below {w W w1 : World} {g : Nat} (h : w.grownBy W (some g)) (hb : Below W.heap.size W w1) : w.grownBy w1 (some g) := grown_then h ⟨hb.os, hb.tape, hb.output, hb.size, fun k hk _ => hb.block k hk⟩
theorem grown_set {w W : World} {g k : Nat} (h : w.grownBy W (some g)) (hk : w.heap.size ≤ k) (j : Nat) (v : Value) : w.grownBy (W.setCell ⟨k, j, none⟩ v) (some g) :=
  ⟨h.os, h.tape, h.output, by simpa [World.setCell] using h.size, fun i hi hne => by rw [Below.heap_setCell _ _ _ _ (by intro e; have e' : i = k := e; omega)]; exact h.block i hi hne⟩
theorem Cur.set {B : Nat} {w : World} {g K k : Nat} (h : Cur B w g K) (hk : B ≤ k) (j : Nat) (v : Value) : Cur B (w.setCell ⟨k, j, none⟩ v) g K :=
  h.keep (fun i hi => Below.heap_setCell _ _ _ _ (by intro e; have e' : i = k := e; omega)) (by simp [World.setCell])

theorem new_cell1 (w : World) (o : Obj) (cs : Array Value) (t : TypeId) (j : Nat) : ((w.alloc o).alloc (.cells cs t)).cell? ⟨w.heap.size + 1, j, none⟩ = cs[j]? := by
  have hn := new_cell (w.alloc o) cs t j
  rw [World.size_alloc] at hn
  exact hn
def i64r (r : Int) : Prop := -9223372036854775808 ≤ r ∧ r ≤ 9223372036854775807
/-- The store in the block S: its strings together have at most N bytes; the result's block R is as it was laid. -/
structure StI (B : Nat) (w : World) (g R S K N : Nat) (W : World) : Prop where
  grown : w.grownBy W (some g)
  cur : Cur B W g K
  res : W.heap[R]? = some (.cells #[.int .i64 0, .string ⟨#[]⟩, .string ⟨#[]⟩] 31 (0, 0))
  st : ∃ (r : Int) (a b : List UInt8), i64r r ∧ a.length + b.length ≤ N ∧ W.heap[S]? = some (.cells #[.int .i64 r, .string ⟨a.toArray⟩, .string ⟨b.toArray⟩] 31 (0, 0))

theorem StI.later {B : Nat} {w : World} {g R S K K' N : Nat} {W w1 : World} (h : StI B w g R S K N W) (hg : W.grownBy w1 (some g)) (hc : Cur B w1 g K') (hR : R ≠ g) (hS : S ≠ g) : StI B w g R S K' N w1 := by
  obtain ⟨r, a, b, h1, h2, h3⟩ := h.st
  exact ⟨grown_then h.grown hg, hc, g_blk hg h.res hR, r, a, b, h1, h2, g_blk hg h3 hS⟩
theorem StI.below {B : Nat} {w : World} {g R S K N : Nat} {W w1 : World} (h : StI B w g R S K N W) (hb : Below W.heap.size W w1) : StI B w g R S K N w1 := by
  obtain ⟨r, a, b, h1, h2, h3⟩ := h.st
  exact ⟨grown_below h.grown hb, h.cur.below hb, blk_below h.res hb, r, a, b, h1, h2, blk_below h3 hb⟩
theorem StI.more {B : Nat} {w : World} {g R S K K' N N' : Nat} {W : World} (h : StI B w g R S K N W) (hk : K ≤ K') (hn : N ≤ N') : StI B w g R S K' N' W := by
  obtain ⟨r, a, b, h1, h2, h3⟩ := h.st
  exact ⟨h.grown, h.cur.more hk, h.res, r, a, b, h1, by omega, h3⟩
theorem StI.put {B : Nat} {w : World} {g R S K N N' : Nat} {W : World} (h : StI B w g R S K N W) (hS : w.heap.size < S) (hR : R < S) (hB : B ≤ S) {r : Int} {a b : List UInt8} (h1 : i64r r) (h2 : a.length + b.length ≤ N') :
    StI B w g R S K N' (set3 W S (.int .i64 r) (.string ⟨a.toArray⟩) (.string ⟨b.toArray⟩)) := by
  obtain ⟨r0, a0, b0, _, _, h3⟩ := h.st
  exact ⟨grown_set (grown_set (grown_set h.grown (by omega) _ _) (by omega) _ _) (by omega) _ _, ((h.cur.set hB _ _).set hB _ _).set hB _ _,
    blk_far (blk_far (blk_far h.res (by simp; omega) _) (by simp; omega) _) (by simp; omega) _, r, a, b, h1, h2, blk_set3 h3 _ _ _⟩

theorem StI.other {B : Nat} {w : World} {g R S K N q : Nat} {W : World} (h : StI B w g R S K N W) (hq : w.heap.size ≤ q) (h1 : q ≠ R) (h2 : q ≠ S) (hB : B ≤ q) (x y z : Value) : StI B w g R S K N (set3 W q x y z) := by
  obtain ⟨r, a, b, h3, h4, h5⟩ := h.st
  exact ⟨grown_set (grown_set (grown_set h.grown hq _ _) hq _ _) hq _ _, ((h.cur.set hB _ _).set hB _ _).set hB _ _,
    blk_far (blk_far (blk_far h.res (by simp; omega) _) (by simp; omega) _) (by simp; omega) _, r, a, b, h3, h4, blk_far (blk_far (blk_far h5 (by simp; omega) _) (by simp; omega) _) (by simp; omega) _⟩

theorem StI.fresh {B : Nat} {w : World} {g R S K N : Nat} {W : World} (h : StI B w g R S K N W) : W.heap.size ≠ R ∧ W.heap.size ≠ S ∧ w.heap.size ≤ W.heap.size ∧ B ≤ W.heap.size ∧ W.heap.size ≠ g := by
  obtain ⟨r, a, b, h3, h4, h5⟩ := h.st
  have h1 := blk_lt h.res
  have h2 := blk_lt h5
  have h6 := h.grown.size
  have h7 := h.cur.lt
  omega
/-- Behind the crash: a second store in a block of its own. -/
def Rel9 (B : Nat) (w : World) (g R S K N : Nat) (v8 v9 : Value) (W : World) : Prop := ∃ (q : Nat) (ok : Bool), v8 = .pointer (some ⟨q, 0, none⟩) ∧ v9 = .bool ok ∧ Aside0 (StI B w g R S K N W ∧ q ≠ g ∧ ∃ (r : Int) (a b : List UInt8), i64r r ∧ a.length + b.length ≤ N ∧ W.heap[q]? = some (.cells #[.int .i64 r, .string ⟨a.toArray⟩, .string ⟨b.toArray⟩] 31 (0, 0)))
theorem rel9_new {B : Nat} {w : World} {g R S K N : Nat} {W : World} (h : StI B w g R S K N W) {r : Int} {a b : List UInt8} (hr : i64r r) (hl : a.length + b.length ≤ N) (ok : Bool) :
    Rel9 B w g R S K N (.pointer (some ⟨W.heap.size, 0, none⟩)) (.bool ok) (W.alloc (.cells #[.int .i64 r, .string ⟨a.toArray⟩, .string ⟨b.toArray⟩] 31)) :=
  ⟨_, ok, rfl, rfl, h.below (below_alloc (Below.refl _ _) _), h.fresh.2.2.2.2, r, a, b, hr, hl, blk_new _ _⟩
theorem rel9_set {B : Nat} {w : World} {g R S K N K0 N0 q : Nat} {W W0 : World} (h : StI B w g R S K N W) (h0 : StI B w g R S K0 N0 W0) (hq : q = W0.heap.size) {x y z : Value} (hb : W.heap[q]? = some (.cells #[x, y, z] 31 (0, 0))) {r : Int} {a b : List UInt8} (hr : i64r r) (hl : a.length + b.length ≤ N) (ok : Bool) :
    Rel9 B w g R S K N (.pointer (some ⟨q, 0, none⟩)) (.bool ok) (set3 W q (.int .i64 r) (.string ⟨a.toArray⟩) (.string ⟨b.toArray⟩)) := by
  obtain ⟨f1, f2, f3, f4, f5⟩ := h0.fresh
  rw [← hq] at f1 f2 f3 f4 f5
  exact ⟨_, ok, rfl, rfl, h.other f3 f1 f2 f4 _ _ _, f5, r, a, b, hr, hl, blk_set3 hb _ _ _⟩

theorem end_c {fn : Func} {p : Tmp} (hr : fn.results = #[.cell p 31]) {W : World} {tm : Array Value} {a b c : Value} {g : Nat} {Post : Ending → World → Prop} (hg : W.heap[g]? = some (.cells #[a, b, c] 31 (0, 0))) (hp : tm.getD p undef = .pointer (some ⟨g, 0, none⟩))
    (hP : Post (.returned (.agg #[a, b, c])) W) : bodyPost Tryd.prog fn Post Exit.ret { tmps := tm, defers := [] } W := by
  refine bodyPost_ret (v := .agg #[a, b, c]) ?_ rfl hP
  have hp' : tm[p]?.getD undef = .pointer (some ⟨g, 0, none⟩) := by simpa using hp
  simp [results, hr, hp', asAddr, run_loadVar_row W g 31 31 #[a, b, c] (0, 0) _ hg Tryd.underlying31 rfl (by rw [size31]; rfl)]

theorem fin3 {B : Nat} {w W : World} {g R K : Nat} (hgr : w.grownBy W (some g)) (hc : Cur B W g K) (hR : w.heap.size ≤ R) (hB : B ≤ R) (x y z : Value) : w.grownBy (set3 W R x y z) (some g) ∧ Cur B (set3 W R x y z) g K :=
  ⟨grown_set (grown_set (grown_set hgr hR _ _) hR _ _) hR _ _, ((hc.set hB _ _).set hB _ _).set hB _ _⟩

def Stored (B : Nat) (w : World) (g K N : Nat) (e : Ending) (w' : World) : Prop := ∃ (r : Int) (a b : List UInt8), i64r r ∧ a.length + b.length ≤ N ∧ e = .returned (S.store r a b) ∧ Cur B w' g K ∧ w.grownBy w' (some g)

theorem putL_len (r : Int) (a b t : List UInt8) : (putL r a b t).length ≤ b.length + 68 := by
  unfold putL
  split
  · rename_i h
    have : ¬ 60 < t.length := by intro h'; simp [putC, h'] at h
    rw [List.length_append, frameL_len]
    omega
  · omega

theorem crash_any (r : Int) (a b : List UInt8) (k : Int) (N : Nat) (hr : i64r r) (hl : a.length + b.length ≤ N) (hN : N ≤ 1048576) (w : World) :
    Calls Tryd.prog 12 #[S.store r a b, .int .i64 k] w fun e w' => ∃ (r' : Int) (a' b' : List UInt8) (ok : Bool), i64r r' ∧ a'.length + b'.length ≤ N ∧ e = .returned (.tuple #[S.store r' a' b', .bool ok]) ∧ Below w.heap.size w w' := by
  refine (crashSpec r a b k (by omega) (by omega) w).mono ?_
  rintro e w' ⟨rfl, hb⟩
  unfold crashV
  split
  · refine ⟨r, a ++ b.take k.toNat, [], _, hr, ?_, rfl, hb⟩
    simp
    omega
  · exact ⟨0, [], [], _, ⟨by omega, by omega⟩, by simp, rfl, hb⟩
theorem numSub {gk : Nat} (h : 0 < gk) : Value.int .i64 ((gk : Int) - 1) = .int .i64 ((gk - 1 : Nat) : Int) := by
  rw [show (gk : Int) - 1 = ((gk - 1 : Nat) : Int) from by omega]

set_option maxHeartbeats 4000000 in
set_option maxRecDepth 100000 in
theorem store_draw (B : Nat) (w : World) (g K : Nat) (h : Cur B w g K) (hK : K ≤ 100000) :
    Calls Tryd.prog 41 #[.pointer (some ⟨g, 0, none⟩)] w (Stored B w g (K + 200) 1000) := by
  have hgB := h.lt
  go_enter Tryd.func41, Tryd.ntmps41
  go_wp2_with fail
  refine (among B _ g K (some ⟨w.heap.size + 1, 0, none⟩) 5 5 [4000, 4000, 200, 40, 0] ?_ ?_ (by omega) (by omega) ((h.alloc _).alloc _) (by omega)).mono ?_
  · refine ⟨rfl, by omega, fun _ => ⟨_, rfl, fun j hj => ?_⟩⟩
    rw [add_plain, new_cell1]
    match j, hj with
    | 0, _ => rfl
    | 1, _ => rfl
    | 2, _ => rfl
    | 3, _ => rfl
    | 4, _ => rfl
  · intro ad e
    cases e
    simp
    omega
  rintro e w1 ⟨x, hx, rfl, hC1, hg1⟩
  have hxr : 0 ≤ x ∧ x ≤ 4000 := by
    simp at hx
    omega
  clear hx
  go_wp2_with fail
  refine (newSpec x _).mono ?_
  rw [decide_eq_true hxr, if_pos rfl]
  rintro e w2 ⟨rfl, hb2⟩
  have hR2 : w2.heap[w.heap.size]? = some (.cells #[.int .i64 0, .string ⟨#[]⟩, .string ⟨#[]⟩] 31 (0, 0)) :=
    blk_below (g_blk hg1 (blk_alloc (blk_new _ _) _) (by omega)) hb2
  have hG2 : w.grownBy w2 (some g) := grown_below (grown_then (grown_alloc (World.grownBy_alloc w _ _) _) hg1) hb2
  have hC2 := hC1.below hb2
  have hz2 : w.heap.size < w2.heap.size := blk_lt hR2
  clear hg1 hC1 hb2
  go_wp2_with fail
  refine (pick B _ g _ 7 (hC2.alloc _) (by omega) (by omega)).mono ?_
  rintro e w3 ⟨n, hn, rfl, hC3, hg3⟩
  have hn6 : n ≤ 6 := by omega
  have HI3 : StI B w g w.heap.size w2.heap.size (K + 4) (70 * (6 - n)) w3 := by
    refine ⟨grown_then (grown_alloc hG2 _) hg3, hC3, g_blk hg3 (blk_alloc hR2 _) (by omega), x, [], [], ⟨by omega, by omega⟩, by simp, g_blk hg3 (blk_new w2 _) (by omega)⟩
  clear hC3 hg3 hG2 hC2 hn hR2 hxr
  obtain ⟨R, hRe⟩ : ∃ R, R = w.heap.size := ⟨_, rfl⟩
  obtain ⟨S, hSe⟩ : ∃ S, S = w2.heap.size := ⟨_, rfl⟩
  rw [← hRe, ← hSe] at HI3 ⊢
  have hRS : R < S := by omega
  have hRg : R ≠ g := by omega
  have hSg : S ≠ g := by omega
  have hBS : B ≤ S := by omega
  have hwS : w.heap.size < S := by omega
  have HRE := Lib.hid hRe
  clear hRe hSe
  go_wp2_with fail
  go_loopg [5] n (fun gk v5 W => v5 = .int .i64 (gk : Int) ∧ Aside0 (gk ≤ 6 ∧ StI B w g R S (K + 4 + (6 - gk) * 8) (70 * (6 - gk)) W))
  case atStart => exact ⟨rfl, hn6, HI3.more (by omega) (by omega)⟩
  case round =>
    obtain ⟨rfl, HH⟩ := hrel
    obtain ⟨hk6, HI⟩ := HH.out
    clear HI3
    by_cases h0 : 0 < gk
    · obtain ⟨r, a, b, hr, hl, hk⟩ := HI.st
      have hC := HI.cur.drewN 1
      have hkd := blk_drew hk
      obtain ⟨c10, c11, c12, f10, f11, f12⟩ := cells3 hk
      obtain ⟨hr0, hr1⟩ := hr
      have HKD := Lib.hid hkd
      have HII := Lib.hid HI
      clear HI hk hkd
      go_upto_region 5 with (fail)
      go_cut [] (fun W => Aside0 (StI B w g R S (K + 4 + (6 - gk) * 8 + 6) (70 * (6 - gk) + 68) W))
      case first =>
        go_region_law (first | (go_simp; go_at_call 49; refine (text B _ g _ hC (by omega)).mono ?_; rintro e w4 ⟨s, hs, rfl, hC4, hg4⟩; obtain ⟨t, rfl⟩ : ∃ t : List UInt8, s = ⟨t.toArray⟩ := ⟨s.data.toList, rfl⟩; have hk4 := g_blk hg4 HKD.out hSg; obtain ⟨d10, d11, d12, e10, e11, e12⟩ := cells3 hk4) | (go_simp; go_at_call 50; refine (putSpec r a b t (by simp; omega) (by simp [ByteArray.size] at hs; omega) hr0 hr1 _).mono ?_; rintro e w5 ⟨rfl, hb5⟩; have hk5 := blk_below hk4 hb5; obtain ⟨d20, d21, d22, e20, e21, e22⟩ := cells3 hk5))
        all_goals
          go_wp2_with fail
          go_meet
          case rel =>
            have hp := putL_len r a b t
            exact ⟨((((HII.out.below (below_drew (Below.refl _ _))).later hg4 hC4 hRg hSg).below hb5).put (N' := 70 * (6 - gk) + 68) hwS hRS hBS ⟨hr0, hr1⟩ (by omega)).more (by omega) (by omega)⟩
      case rest =>
        clear c10 c11 c12 f10 f11 f12 hC HKD hr0 hr1 hl
        obtain ⟨r, a, b, hr, hl, hk⟩ := hcut.out.st
        have hR := syncSpec r a b (by omega) (by omega)
        obtain ⟨c10, c11, c12, f10, f11, f12⟩ := cells3 hk
        cases hg : good r a b with
        | false =>
          rw [hg] at hR
          go_wp2_with fail
          refine (hR _).mono ?_
          rintro e w6 ⟨rfl, hb6⟩
          have HI6 := Lib.hid (hcut.out.below hb6)
          clear hk c10 c11 c12 f10 f11 f12 hR
          go_wp2_with fail
          go_roundg (gk - 1)
          case measure => omega
          case rel => exact ⟨numSub h0, ⟨by omega, (HI6.out.below (below_alloc (Below.refl _ _) _)).more (by omega) (by omega)⟩⟩
        | true =>
          rw [hg] at hR
          go_wp2_with fail
          refine (hR _).mono ?_
          rintro e w6 ⟨rfl, hb6⟩
          have HI6 := Lib.hid (hcut.out.below hb6)
          have hC6 := (hcut.out.cur.below hb6)
          have hS6 := blk_lt (blk_below hk hb6)
          clear hk c10 c11 c12 f10 f11 f12 hR hb6
          go_wp2_with fail
          refine (one B _ g _ 3 (hC6.alloc _) (by omega) (by omega)).mono ?_
          rintro e w7 ⟨bb, rfl, hC7, hg7⟩
          have hI7 := ((HI6.out.below (below_alloc (Below.refl _ _) _)).later hg7 hC7 hRg hSg)
          have HI7 := Lib.hid hI7
          have hk7 := g_blk hg7 (blk_new w6 _) (by have := hI7.cur.lt; omega)
          obtain ⟨c10, c11, c12, f10, f11, f12⟩ := cells3 hk7
          obtain ⟨r', a', b', hr', hl', hkk⟩ := hI7.st
          obtain ⟨d10, d11, d12, g10, g11, g12⟩ := cells3 hkk
          clear hI7 hk7 hkk hg7 hC7 hC6
          cases bb with
          | false =>
            go_wp2_with fail
            go_roundg (gk - 1)
            case measure => omega
            case rel => exact ⟨numSub h0, ⟨by omega, HI7.out.more (by omega) (by omega)⟩⟩
          | true =>
            go_wp2_with fail
            go_roundg (gk - 1)
            case measure => omega
            case rel =>
              refine ⟨numSub h0, ⟨by omega, ?_⟩⟩
              exact ((HI7.out.put (N' := 70 * (6 - gk) + 68) (b := []) hwS hRS hBS hr (by simp; omega)).more (by omega) (by omega))
    · have h00 : gk = 0 := by omega
      have h01 : ¬ ((0 : Int) < (gk : Int)) := by omega
      have HI' : StI B w g R S (K + 52) 420 wr := HI.more (by omega) (by omega)
      clear HI
      obtain ⟨r, a, b, hr, hl, hk⟩ := HI'.st
      have hC := HI'.cur.drewN 1
      obtain ⟨c10, c11, c12, f10, f11, f12⟩ := cells3 hk
      have HKD := Lib.hid (blk_drew hk)
      have HII := Lib.hid HI'
      have HK0 := Lib.hid hk
      have hwg : wr.heap.size ≠ g := by have := HI'.cur.lt; omega
      have hSlt : S < wr.heap.size := blk_lt hk
      have s1 : IntKind.i64.wrap ((b.length : Int) + 1) = (b.length : Int) + 1 := IntWalk.i64_in _ (by omega)
      clear HI' hk
      go_upto_region 9 with (fail)
      go_cut [5, 8, 9, 19, 20] (fun v5 v8 v9 v19 v20 W => Rel9 B w g R S (K + 52 + 2) 420 v8 v9 W)
      case first =>
        have hSa : wr.heap.size ≠ S := by omega
        go_region_held3 (fun W => W.cell? ⟨S, 0, none⟩ = some (.int .i64 r) ∧ W.cell? ⟨S, 1, none⟩ = some (.string ⟨a.toArray⟩) ∧ W.cell? ⟨S, 2, none⟩ = some (.string ⟨b.toArray⟩)) (first | exact ⟨c10, c11, c12⟩ | exact ⟨d10, d11, d12⟩ | exact ⟨d20, d21, d22⟩ | (go_simp; done) | go_keep) (first | (go_at_call 42; first | (refine (pick B _ g _ _ hC (by first | omega | (rw [s1]; omega)) (by first | omega | (rw [s1]; omega))).mono ?_; rintro e w4 ⟨m, hm, rfl, hC4, hg4⟩; have hk4 := g_blk hg4 HKD.out hSg; obtain ⟨d10, d11, d12, e10, e11, e12⟩ := cells3 hk4; have hS4 := blk_lt hk4; have hI4 := Lib.hid ((HII.out.below (below_drew (Below.refl _ _))).later hg4 hC4 hRg hSg); have hq4 := True.intro; clear hg4) | (refine (pick B _ g _ _ ((HII.out.cur.alloc _).drewN 1) (by omega) (by first | omega | (rw [s1]; omega))).mono ?_; rintro e w4 ⟨m, hm, rfl, hC4, hg4⟩; have hk4 := g_blk hg4 (blk_drew (blk_alloc HK0.out _)) hSg; obtain ⟨d10, d11, d12, e10, e11, e12⟩ := cells3 hk4; have hS4 := blk_lt hk4; have hI4 := Lib.hid ((HII.out.below (below_drew (below_alloc (Below.refl _ _) _))).later hg4 hC4 hRg hSg); have hq4 := g_blk hg4 (blk_drew (blk_new wr _)) hwg; clear hg4)) | (go_at_call 12; refine (crash_any r a b _ 420 hr hl (by omega) _).mono ?_; rintro e w5 ⟨r', a', b', ok, hr', hl', rfl, hb5⟩; first | (have hk5 := blk_below (blk_alloc hk4 _) hb5; have hq5 := blk_below (blk_new _ _) hb5; obtain ⟨d20, d21, d22, e20, e21, e22⟩ := cells3 hk5; have hS5 := blk_lt hk5; obtain ⟨q20, q21, q22, p20, p21, p22⟩ := cells3 hq5; have hI5 := Lib.hid ((hI4.out.below (below_alloc (Below.refl _ _) _)).below hb5); clear hb5) | (have hq5 := blk_below hq4 hb5; have hk5 := blk_below hk4 hb5; obtain ⟨d20, d21, d22, e20, e21, e22⟩ := cells3 hk5; have hS5 := blk_lt hk5; obtain ⟨q20, q21, q22, p20, p21, p22⟩ := cells3 hq5; have hI5 := Lib.hid (hI4.out.below hb5); clear hb5) | (have hk5 := blk_below hk4 hb5; obtain ⟨d20, d21, d22, e20, e21, e22⟩ := cells3 hk5; have hS5 := blk_lt hk5; have hI5 := Lib.hid (hI4.out.below hb5); clear hb5)))
        all_goals
          clear c10 c11 c12 f10 f11 f12 d10 d11 d12 e10 e11 e12 HK0 HKD hC s1
          go_wp2_with fail
          go_meet
          case rel =>
            first
              | exact rel9_new hI5.out hr' hl' ok
              | exact rel9_set hI5.out hI4.out rfl hq5 hr' hl' ok
              | exact rel9_set hI5.out HII.out rfl hq5 hr' hl' ok
      case rest =>
        clear c10 c11 c12 f10 f11 f12 HKD HK0 hC s1 hl hr h00 h01
        obtain ⟨q, ok, rfl, rfl, HQ⟩ := hcut
        obtain ⟨hI, hqg, r2, a2, b2, hr2, hl2, hkq⟩ := HQ.out
        have HI12 := Lib.hid hI
        have HKQ := Lib.hid hkq
        have hC := hI.cur
        clear HQ hI hkq
        cases ok with
        | false =>
          go_upto_region 12 with (fail)
          have HI12 : Hid (StI B w g R S (K + 60) 420 wc) := Lib.hid (HI12.out.more (by omega) (by omega))
          have hc := HI12.out.cur
          go_wp2_with fail
          refine (pick B _ g _ 20 hc (by omega) (by omega)).mono ?_
          rintro e w8 ⟨m, hm, rfl, hC8, hg8⟩
          have hI8 := HI12.out.later hg8 hC8 hRg hSg
          obtain ⟨r, a, b, hr, hl, hk⟩ := hI8.st
          obtain ⟨c10, c11, c12, f10, f11, f12⟩ := cells3 hk
          obtain ⟨t20, t21, t22, h20, h21, h22⟩ := cells3 hI8.res
          have hRw : w.heap.size ≤ R := by rw [HRE.out]; omega
          have hBR : B ≤ R := by omega
          have HI8 := Lib.hid hI8
          have HK8 := Lib.hid hk
          have hC8d := hC8.drewN 1
          clear hI8 hk hg8 HI12 hc
          by_cases m0 : m = 0
          · subst m0
            go_wp2_with fail
            refine (spoilt B _ g _ ⟨a.toArray⟩ (by simp [ByteArray.size]; omega) hC8 (by omega)).mono ?_
            rintro e w9 ⟨s, hs, rfl, hC9, hg9⟩
            obtain ⟨t, rfl⟩ : ∃ t : List UInt8, s = ⟨t.toArray⟩ := ⟨s.data.toList, rfl⟩
            have hI9 := HI8.out.later hg9 hC9 hRg hSg
            clear c10 c11 c12 f10 f11 f12 t20 t21 t22 h20 h21 h22
            have hk9 := g_blk hg9 HK8.out hSg
            obtain ⟨c10, c11, c12, f10, f11, f12⟩ := cells3 hk9
            obtain ⟨t20, t21, t22, h20, h21, h22⟩ := cells3 hI9.res
            have HI9 := Lib.hid hI9
            have hst : t.length ≤ a.length + 2 := by simpa [ByteArray.size] using hs
            clear hI9 hk9 hg9 hC9 hC8 hC8d hs
            go_wp2
            have hf := fin3 (grown_set HI9.out.grown (by omega) 1 (.string ⟨t.toArray⟩)) (HI9.out.cur.set hBS 1 (.string ⟨t.toArray⟩)) hRw hBR (.int .i64 r) (.string ⟨t.toArray⟩) (.string ⟨b.toArray⟩)
            exact end_c rfl (blk_set3 (blk_far HI9.out.res (by simp; omega) _) _ _ _) rfl ⟨r, t, b, hr, by omega, rfl, hf.2.more (by omega), hf.1⟩
          · by_cases m1 : m = 1
            · subst m1
              clear m0
              go_upto_region 16 with (fail)
              go_region_held3 (fun W => W.cell? ⟨S, 1, none⟩ = some (.string ⟨a.toArray⟩) ∧ W.cell? ⟨S, 2, none⟩ = some (.string ⟨b.toArray⟩)) (first | exact ⟨c11, c12⟩ | exact ⟨d11, d12⟩ | (go_simp; done) | go_keep) (first | (go_at_call 42; refine (pick B _ g _ 2 hC8d (by omega) (by omega)).mono ?_; rintro e w9 ⟨m', hm', rfl, hC9, hg9⟩; have hk9 := g_blk hg9 (blk_drew HK8.out) hSg; obtain ⟨d10, d11, d12, e10, e11, e12⟩ := cells3 hk9; have hI9 := (HI8.out.below (below_drew (Below.refl _ _))).later hg9 hC9 hRg hSg; obtain ⟨y20, y21, y22, z20, z21, z22⟩ := cells3 hI9.res; have HI9 := Lib.hid hI9; clear hI9))
              clear c10 c11 c12 f10 f11 f12 t20 t21 t22 h20 h21 h22 hC8 hC8d
              have hm2 : m' < 2 := by omega
              go_wp2
              have hf := fin3 (grown_set HI9.out.grown (by omega) 0 (.int .i64 ((a.length : Int) + b.length - m'))) (HI9.out.cur.set hBS 0 (.int .i64 ((a.length : Int) + b.length - m'))) hRw hBR (.int .i64 ((a.length : Int) + b.length - m')) (.string ⟨a.toArray⟩) (.string ⟨b.toArray⟩)
              exact end_c rfl (blk_set3 (blk_far HI9.out.res (by simp; omega) _) _ _ _) rfl ⟨_, a, b, ⟨by omega, by omega⟩, by omega, rfl, hf.2.more (by omega), hf.1⟩
            · have q0 : ((m : Int) == 0) = false := by simp; omega
              have q1 : ((m : Int) == 1) = false := by simp; omega
              clear m0 m1 hC8 hC8d
              go_wp2
              have hf := fin3 HI8.out.grown HI8.out.cur hRw hBR (.int .i64 r) (.string ⟨a.toArray⟩) (.string ⟨b.toArray⟩)
              exact end_c rfl (blk_set3 HI8.out.res _ _ _) rfl ⟨r, a, b, hr, by omega, rfl, hf.2.more (by omega), hf.1⟩
        | true =>
          go_wp2_with fail
          refine (one B _ g _ 4 hC (by omega) (by omega)).mono ?_
          rintro e w6 ⟨bb, rfl, hC6, hg6⟩
          have hI6 := HI12.out.later hg6 hC6 hRg hSg
          have hk6 := g_blk hg6 HKQ.out hqg
          clear HI12 HKQ hC hg6
          obtain ⟨c10, c11, c12, f10, f11, f12⟩ := cells3 hk6
          obtain ⟨r3, a3, b3, hr3, hl3, hkk⟩ := hI6.st
          obtain ⟨d10, d11, d12, g10, g11, g12⟩ := cells3 hkk
          have HI6 := Lib.hid hI6
          clear hI6 hkk hk6
          cases bb with
          | false =>
            go_upto_region 12 with (fail)
            have HI12 : Hid (StI B w g R S (K + 60) 420 w6) := Lib.hid (HI6.out.more (by omega) (by omega))
            clear c10 c11 c12 f10 f11 f12 d10 d11 d12 g10 g11 g12 HI6
            have hc := HI12.out.cur
            go_wp2_with fail
            refine (pick B _ g _ 20 hc (by omega) (by omega)).mono ?_
            rintro e w8 ⟨m, hm, rfl, hC8, hg8⟩
            have hI8 := HI12.out.later hg8 hC8 hRg hSg
            obtain ⟨r, a, b, hr, hl, hk⟩ := hI8.st
            obtain ⟨c10, c11, c12, f10, f11, f12⟩ := cells3 hk
            obtain ⟨t20, t21, t22, h20, h21, h22⟩ := cells3 hI8.res
            have hRw : w.heap.size ≤ R := by rw [HRE.out]; omega
            have hBR : B ≤ R := by omega
            have HI8 := Lib.hid hI8
            have HK8 := Lib.hid hk
            have hC8d := hC8.drewN 1
            clear hI8 hk hg8 HI12 hc
            by_cases m0 : m = 0
            · subst m0
              go_wp2_with fail
              refine (spoilt B _ g _ ⟨a.toArray⟩ (by simp [ByteArray.size]; omega) hC8 (by omega)).mono ?_
              rintro e w9 ⟨s, hs, rfl, hC9, hg9⟩
              obtain ⟨t, rfl⟩ : ∃ t : List UInt8, s = ⟨t.toArray⟩ := ⟨s.data.toList, rfl⟩
              have hI9 := HI8.out.later hg9 hC9 hRg hSg
              clear c10 c11 c12 f10 f11 f12 t20 t21 t22 h20 h21 h22
              have hk9 := g_blk hg9 HK8.out hSg
              obtain ⟨c10, c11, c12, f10, f11, f12⟩ := cells3 hk9
              obtain ⟨t20, t21, t22, h20, h21, h22⟩ := cells3 hI9.res
              have HI9 := Lib.hid hI9
              have hst : t.length ≤ a.length + 2 := by simpa [ByteArray.size] using hs
              clear hI9 hk9 hg9 hC9 hC8 hC8d hs
              go_wp2
              have hf := fin3 (grown_set HI9.out.grown (by omega) 1 (.string ⟨t.toArray⟩)) (HI9.out.cur.set hBS 1 (.string ⟨t.toArray⟩)) hRw hBR (.int .i64 r) (.string ⟨t.toArray⟩) (.string ⟨b.toArray⟩)
              exact end_c rfl (blk_set3 (blk_far HI9.out.res (by simp; omega) _) _ _ _) rfl ⟨r, t, b, hr, by omega, rfl, hf.2.more (by omega), hf.1⟩
            · by_cases m1 : m = 1
              · subst m1
                clear m0
                go_upto_region 16 with (fail)
                go_region_held3 (fun W => W.cell? ⟨S, 1, none⟩ = some (.string ⟨a.toArray⟩) ∧ W.cell? ⟨S, 2, none⟩ = some (.string ⟨b.toArray⟩)) (first | exact ⟨c11, c12⟩ | exact ⟨d11, d12⟩ | (go_simp; done) | go_keep) (first | (go_at_call 42; refine (pick B _ g _ 2 hC8d (by omega) (by omega)).mono ?_; rintro e w9 ⟨m', hm', rfl, hC9, hg9⟩; have hk9 := g_blk hg9 (blk_drew HK8.out) hSg; obtain ⟨d10, d11, d12, e10, e11, e12⟩ := cells3 hk9; have hI9 := (HI8.out.below (below_drew (Below.refl _ _))).later hg9 hC9 hRg hSg; obtain ⟨y20, y21, y22, z20, z21, z22⟩ := cells3 hI9.res; have HI9 := Lib.hid hI9; clear hI9))
                clear c10 c11 c12 f10 f11 f12 t20 t21 t22 h20 h21 h22 hC8 hC8d
                have hm2 : m' < 2 := by omega
                go_wp2
                have hf := fin3 (grown_set HI9.out.grown (by omega) 0 (.int .i64 ((a.length : Int) + b.length - m'))) (HI9.out.cur.set hBS 0 (.int .i64 ((a.length : Int) + b.length - m'))) hRw hBR (.int .i64 ((a.length : Int) + b.length - m')) (.string ⟨a.toArray⟩) (.string ⟨b.toArray⟩)
                exact end_c rfl (blk_set3 (blk_far HI9.out.res (by simp; omega) _) _ _ _) rfl ⟨_, a, b, ⟨by omega, by omega⟩, by omega, rfl, hf.2.more (by omega), hf.1⟩
              · have q0 : ((m : Int) == 0) = false := by simp; omega
                have q1 : ((m : Int) == 1) = false := by simp; omega
                clear m0 m1 hC8 hC8d
                go_wp2
                have hf := fin3 HI8.out.grown HI8.out.cur hRw hBR (.int .i64 r) (.string ⟨a.toArray⟩) (.string ⟨b.toArray⟩)
                exact end_c rfl (blk_set3 HI8.out.res _ _ _) rfl ⟨r, a, b, hr, by omega, rfl, hf.2.more (by omega), hf.1⟩
          | true =>
            go_upto_region 12 with (fail)
            have HI12 := Lib.hid ((HI6.out.put (N' := 420) hwS hRS hBS hr2 hl2).more (K' := K + 60) (by omega) (Nat.le_refl _))
            clear c10 c11 c12 f10 f11 f12 d10 d11 d12 g10 g11 g12 HI6
            have hc := HI12.out.cur
            go_wp2_with fail
            refine (pick B _ g _ 20 hc (by omega) (by omega)).mono ?_
            rintro e w8 ⟨m, hm, rfl, hC8, hg8⟩
            have hI8 := HI12.out.later hg8 hC8 hRg hSg
            obtain ⟨r, a, b, hr, hl, hk⟩ := hI8.st
            obtain ⟨c10, c11, c12, f10, f11, f12⟩ := cells3 hk
            obtain ⟨t20, t21, t22, h20, h21, h22⟩ := cells3 hI8.res
            have hRw : w.heap.size ≤ R := by rw [HRE.out]; omega
            have hBR : B ≤ R := by omega
            have HI8 := Lib.hid hI8
            have HK8 := Lib.hid hk
            have hC8d := hC8.drewN 1
            clear hI8 hk hg8 HI12 hc
            by_cases m0 : m = 0
            · subst m0
              go_wp2_with fail
              refine (spoilt B _ g _ ⟨a.toArray⟩ (by simp [ByteArray.size]; omega) hC8 (by omega)).mono ?_
              rintro e w9 ⟨s, hs, rfl, hC9, hg9⟩
              obtain ⟨t, rfl⟩ : ∃ t : List UInt8, s = ⟨t.toArray⟩ := ⟨s.data.toList, rfl⟩
              have hI9 := HI8.out.later hg9 hC9 hRg hSg
              clear c10 c11 c12 f10 f11 f12 t20 t21 t22 h20 h21 h22
              have hk9 := g_blk hg9 HK8.out hSg
              obtain ⟨c10, c11, c12, f10, f11, f12⟩ := cells3 hk9
              obtain ⟨t20, t21, t22, h20, h21, h22⟩ := cells3 hI9.res
              have HI9 := Lib.hid hI9
              have hst : t.length ≤ a.length + 2 := by simpa [ByteArray.size] using hs
              clear hI9 hk9 hg9 hC9 hC8 hC8d hs
              go_wp2
              have hf := fin3 (grown_set HI9.out.grown (by omega) 1 (.string ⟨t.toArray⟩)) (HI9.out.cur.set hBS 1 (.string ⟨t.toArray⟩)) hRw hBR (.int .i64 r) (.string ⟨t.toArray⟩) (.string ⟨b.toArray⟩)
              exact end_c rfl (blk_set3 (blk_far HI9.out.res (by simp; omega) _) _ _ _) rfl ⟨r, t, b, hr, by omega, rfl, hf.2.more (by omega), hf.1⟩
            · by_cases m1 : m = 1
              · subst m1
                clear m0
                go_upto_region 16 with (fail)
                go_region_held3 (fun W => W.cell? ⟨S, 1, none⟩ = some (.string ⟨a.toArray⟩) ∧ W.cell? ⟨S, 2, none⟩ = some (.string ⟨b.toArray⟩)) (first | exact ⟨c11, c12⟩ | exact ⟨d11, d12⟩ | (go_simp; done) | go_keep) (first | (go_at_call 42; refine (pick B _ g _ 2 hC8d (by omega) (by omega)).mono ?_; rintro e w9 ⟨m', hm', rfl, hC9, hg9⟩; have hk9 := g_blk hg9 (blk_drew HK8.out) hSg; obtain ⟨d10, d11, d12, e10, e11, e12⟩ := cells3 hk9; have hI9 := (HI8.out.below (below_drew (Below.refl _ _))).later hg9 hC9 hRg hSg; obtain ⟨y20, y21, y22, z20, z21, z22⟩ := cells3 hI9.res; have HI9 := Lib.hid hI9; clear hI9))
                clear c10 c11 c12 f10 f11 f12 t20 t21 t22 h20 h21 h22 hC8 hC8d
                have hm2 : m' < 2 := by omega
                go_wp2
                have hf := fin3 (grown_set HI9.out.grown (by omega) 0 (.int .i64 ((a.length : Int) + b.length - m'))) (HI9.out.cur.set hBS 0 (.int .i64 ((a.length : Int) + b.length - m'))) hRw hBR (.int .i64 ((a.length : Int) + b.length - m')) (.string ⟨a.toArray⟩) (.string ⟨b.toArray⟩)
                exact end_c rfl (blk_set3 (blk_far HI9.out.res (by simp; omega) _) _ _ _) rfl ⟨_, a, b, ⟨by omega, by omega⟩, by omega, rfl, hf.2.more (by omega), hf.1⟩
              · have q0 : ((m : Int) == 0) = false := by simp; omega
                have q1 : ((m : Int) == 1) = false := by simp; omega
                clear m0 m1 hC8 hC8d
                go_wp2
                have hf := fin3 HI8.out.grown HI8.out.cur hRw hBR (.int .i64 r) (.string ⟨a.toArray⟩) (.string ⟨b.toArray⟩)
                exact end_c rfl (blk_set3 HI8.out.res _ _ _) rfl ⟨r, a, b, hr, by omega, rfl, hf.2.more (by omega), hf.1⟩
end Go.Proofs.YtjhaaaljlpcnaaaDoor.U
