/- Stores: what PutFrame of both sides, sameTexts and big compute. Conditions: the strings have at most 1048576 bytes together; the library's variables as the program lays them. -/
import Derived.Test.YtjhaaaljlpcnaaaDoorS11
namespace Go.Proofs.YtjhaaaljlpcnaaaDoor.S
set_option linter.unusedVariables false
set_option linter.unusedSimpArgs false
open Go.RowKit Go.Proofs.YtjhaaaljlpcnaaaDoorW.PrintWords Go.Proofs.YtjhaaaljlpcnaaaDoorW.PrintMore Go.Proofs.YtjhaaaljlpcnaaaDoor.X Go.Proofs.YtjhaaaljlpcnaaaDoor.A Go.Proofs.YtjhaaaljlpcnaaaDoor.Y

theorem end_ctt' {fn : Func} {p u v : Tmp} (hr : fn.results = #[.cell p 31, .tmp u, .tmp v]) {W : World} {tm : Array Value} {a b c : Value} {g : Nat} {Post : Ending → World → Prop} (hg : W.heap[g]? = some (.cells #[a, b, c] 31 (0, 0))) (hp : tm.getD p undef = .pointer (some ⟨g, 0, none⟩))
    (hP : Post (.returned (.tuple #[.agg #[a, b, c], tm.getD u undef, tm.getD v undef])) W) : bodyPost Tryd.prog fn Post Exit.ret { tmps := tm, defers := [] } W :=
  bodyPost_ret (results_ctt hr _ _ g 31 #[a, b, c] (0, 0) _ hp hg Tryd.underlying31 rfl (by rw [size31]; rfl)) rfl hP
theorem end_ct' {fn : Func} {p u : Tmp} (hr : fn.results = #[.cell p 31, .tmp u]) {W : World} {tm : Array Value} {a b c : Value} {g : Nat} {Post : Ending → World → Prop} (hg : W.heap[g]? = some (.cells #[a, b, c] 31 (0, 0))) (hp : tm.getD p undef = .pointer (some ⟨g, 0, none⟩))
    (hP : Post (.returned (.tuple #[.agg #[a, b, c], tm.getD u undef])) W) : bodyPost Tryd.prog fn Post Exit.ret { tmps := tm, defers := [] } W :=
  bodyPost_ret (results_ct hr _ _ g 31 #[a, b, c] (0, 0) _ hp hg Tryd.underlying31 rfl (by rw [size31]; rfl)) rfl hP

def putR (r : Int) (a b t : List UInt8) : Value := if good r a b then store r a (putL r a b t) else store 0 [] []
def putK (r : Int) (a b t : List UInt8) : Nat := if good r a b then putC r a b t else 0

theorem putFImpl (r : Int) (a b t : List UInt8) (hl : (a ++ b).length ≤ 1048576) (ht : t.length ≤ 1048576) (hr0 : -9223372036854775808 ≤ r) (hr1 : r ≤ 9223372036854775807) (w : World) (hG : GL w) :
    Calls Tryd.prog 19 #[store r a b, .string ⟨t.toArray⟩] w fun e w' => e = .returned (.tuple #[putR r a b t, .int .i64 (putK r a b t : Nat), .bool (good r a b)]) ∧ Below w.heap.size w w' := by
  have hl1 : a.length + b.length ≤ 1048576 := by simpa using hl
  have hR := isStore r a b (by omega) (by omega)
  have hP := fun W (hW : GL W) => putImpl r a b t hl ht hr0 hr1 W hW
  unfold putR putK
  cases hg : good r a b with
  | false =>
    rw [hg] at hR
    clear hg hP hl
    go_enter Tryd.func19, Tryd.ntmps19
    go_wp2_with fail
    refine (hR _).mono ?_
    rintro e w1 ⟨rfl, hb1⟩
    obtain ⟨hk1, hk2, hB1, hz1⟩ := two hb1
    obtain ⟨c10, c11, c12, _, _, _⟩ := cells3 hk1
    obtain ⟨c20, c21, c22, f20, f21, f22⟩ := cells3 hk2
    have HB1 := Aside0.mk hB1
    have HK := Lib.hid hk2
    clear hk1 hk2 hB1 hb1 hz1
    go_wp2
    exact end_ctt rfl HK.out rfl ⟨rfl, below_set3 HB1.out (by omega) _ _ _⟩
  | true =>
    rw [hg] at hR
    clear hg hl
    generalize putL r a b t = V at hP ⊢
    generalize putC r a b t = C at hP ⊢
    go_enter Tryd.func19, Tryd.ntmps19
    go_wp2_with fail
    refine (hR _).mono ?_
    rintro e w1 ⟨rfl, hb1⟩
    obtain ⟨hk1, hk2, hB1, hz1⟩ := two hb1
    obtain ⟨c10, c11, c12, _, _, _⟩ := cells3 hk1
    have HB1 := Aside0.mk hB1
    have HK := Lib.hid hk2
    clear hk1 hk2 hB1 hb1 hz1
    go_wp2_with fail
    refine (hP _ (hG.below HB1.out)).mono ?_
    rintro e w2 ⟨rfl, hb2⟩
    have hk2 := blk_below HK.out hb2
    obtain ⟨c20, c21, c22, f20, f21, f22⟩ := cells3 hk2
    have hz2 : w.heap.size + 1 < w2.heap.size := blk_lt hk2
    have HB2 := Aside0.mk (below_then HB1.out HB1.out.size hb2)
    have HK2 := Lib.hid hk2
    clear hk2 hb2
    go_wp2
    exact end_ctt' rfl (blk_alloc (blk_set3 HK2.out _ _ _) _) rfl ⟨rfl, below_alloc (below_set3 HB2.out (by omega) _ _ _) _⟩

theorem putFSpec (r : Int) (a b t : List UInt8) (hl : (a ++ b).length ≤ 1048576) (ht : t.length ≤ 1048576) (hr0 : -9223372036854775808 ≤ r) (hr1 : r ≤ 9223372036854775807) (w : World) :
    Calls Tryd.prog 25 #[store r a b, .string ⟨t.toArray⟩] w fun e w' => e = .returned (.tuple #[putR r a b t, .int .i64 (putK r a b t : Nat), .bool (good r a b)]) ∧ Below w.heap.size w w' := by
  have hl1 : a.length + b.length ≤ 1048576 := by simpa using hl
  have hR := goodSpec r a b (by omega) (by omega)
  have hP := fun W => putSpec r a b t hl ht hr0 hr1 W
  unfold putR putK
  cases hg : good r a b with
  | false =>
    rw [hg] at hR
    clear hg hP hl
    go_enter Tryd.func25, Tryd.ntmps25
    go_wp2_with fail
    refine (hR _).mono ?_
    rintro e w1 ⟨rfl, hb1⟩
    obtain ⟨hk1, hk2, hB1, hz1⟩ := two hb1
    obtain ⟨c10, c11, c12, _, _, _⟩ := cells3 hk1
    obtain ⟨c20, c21, c22, f20, f21, f22⟩ := cells3 hk2
    have HB1 := Aside0.mk hB1
    have HK := Lib.hid hk2
    clear hk1 hk2 hB1 hb1 hz1
    go_wp2
    exact end_ctt rfl HK.out rfl ⟨rfl, below_set3 HB1.out (by omega) _ _ _⟩
  | true =>
    rw [hg] at hR
    clear hg hl
    generalize putL r a b t = V at hP ⊢
    generalize putC r a b t = C at hP ⊢
    go_enter Tryd.func25, Tryd.ntmps25
    go_wp2_with fail
    refine (hR _).mono ?_
    rintro e w1 ⟨rfl, hb1⟩
    obtain ⟨hk1, hk2, hB1, hz1⟩ := two hb1
    obtain ⟨c10, c11, c12, _, _, _⟩ := cells3 hk1
    have HB1 := Aside0.mk hB1
    have HK := Lib.hid hk2
    clear hk1 hk2 hB1 hb1 hz1
    go_wp2_with fail
    refine (hP _).mono ?_
    rintro e w2 ⟨rfl, hb2⟩
    have hk2 := blk_below HK.out hb2
    obtain ⟨c20, c21, c22, f20, f21, f22⟩ := cells3 hk2
    have hz2 : w.heap.size + 1 < w2.heap.size := blk_lt hk2
    have HB2 := Aside0.mk (below_then HB1.out HB1.out.size hb2)
    have HK2 := Lib.hid hk2
    clear hk2 hb2
    go_wp2
    exact end_ctt' rfl (blk_alloc (blk_set3 HK2.out _ _ _) _) rfl ⟨rfl, below_alloc (below_set3 HB2.out (by omega) _ _ _) _⟩

theorem big (A1 A2 : Option Addr) (n m c1 c2 : Nat) (hn : n ≤ 140737488351232) (hm : m ≤ 140737488351232) (w : World) :
    Calls Tryd.prog 9 #[.slice A1 n c1, .slice A2 m c2] w fun e w' => e = .returned (.bool (decide (1048576 < n + m))) ∧ w = w' := by
  by_cases h : 1048576 < n
  · have e : decide (1048576 < n + m) = true := decide_eq_true (by omega)
    rw [e]
    clear e
    go_enter Tryd.func9, Tryd.ntmps9
    go_wp2
    go_ret
    exact ⟨rfl, rfl⟩
  · by_cases h2 : 1048576 < n + m
    · have e : decide (1048576 < n + m) = true := decide_eq_true h2
      rw [e]
      clear e
      have d : (1048576 : Int) - n < m := by omega
      go_enter Tryd.func9, Tryd.ntmps9
      go_wp2
      go_ret
      refine ⟨?_, rfl⟩
      first | rfl | (simp; omega)
    · have e : decide (1048576 < n + m) = false := decide_eq_false h2
      rw [e]
      clear e
      have d : ¬ (1048576 : Int) - n < m := by omega
      go_enter Tryd.func9, Tryd.ntmps9
      go_wp2
      go_ret
      refine ⟨?_, rfl⟩
      first | rfl | (simp; omega)

theorem cellSt {w W : World} {A : Option Addr} {n : Nat} {xs : List ByteArray} (hr : Kd.C Kd.string w A n xs) (hb : Below w.heap.size w W) (i : Nat) (hi : i < n) : ∃ ad, A = some ad ∧ W.cell? (ad.add i) = some (.string (xs.getD i ByteArray.empty)) := by
  obtain ⟨ad, e, hx⟩ := Kd.at_string hr (i : Int) (by omega) (by omega)
  exact ⟨ad, e, (hb.cell (World.block_lt_of_cell? w _ hx)).trans hx⟩
theorem toList_inj {a b : ByteArray} (h : a.toList = b.toList) : a = b := Go.WideShapes.bytes_inj (by rw [← Lib.toList_data, ← Lib.toList_data, h])
theorem take_getD (l : List ByteArray) (i : Nat) (h : i < l.length) : l.take (i + 1) = l.take i ++ [l.getD i ByteArray.empty] := by
  rw [List.take_succ_eq_append_getElem h]
  simp [h]
theorem sameTexts (xs ys : List ByteArray) (A B : Option Addr) (c1 c2 : Nat) (w : World) (hx : Kd.C Kd.string w A xs.length xs) (hy : Kd.C Kd.string w B ys.length ys) (h1 : xs.length ≤ 100000) (h2 : ys.length ≤ 100000) (hc1 : xs.length ≤ c1) (hc2 : ys.length ≤ c2) :
    Calls Tryd.prog 18 #[.slice A xs.length c1, .slice B ys.length c2] w fun e w' => e = .returned (.bool (decide (xs = ys))) ∧ Drawn0 w w' := by
  by_cases hl : xs.length = ys.length
  · obtain ⟨n, hn⟩ : ∃ n, n = xs.length := ⟨_, rfl⟩
    have hm : n = ys.length := hn.trans hl
    rw [← hn] at hx h1 hc1 ⊢
    rw [← hm] at hy hc2 ⊢
    have HN := Lib.hid hn
    have HM := Lib.hid hm
    have HX := Lib.hid hx
    have HY := Lib.hid hy
    clear hn hm hl hx hy h2
    go_enter Tryd.func18, Tryd.ntmps18
    go_wp2
    go_loopg [13] n (fun gk v13 W => ∃ i : Nat, Aside0 (i ≤ n ∧ gk = n - i ∧ xs.take i = ys.take i) ∧ v13 = .int .i64 i ∧ Aside0 (Drawn0 w W))
    case atStart => exact ⟨0, ⟨by omega, rfl, rfl⟩, rfl, ⟨Drawn0.refl _⟩⟩
    case round =>
      obtain ⟨i, HI, rfl, HD⟩ := hrel
      have hi := HI.out.1
      by_cases hlt : i < n
      · obtain ⟨ad, e1, hx1⟩ := cellSt HX.out HD.out.below i hlt
        obtain ⟨bd, e2, hy1⟩ := cellSt HY.out HD.out.below i hlt
        subst e1
        subst e2
        obtain ⟨x, hx⟩ : ∃ x, x = xs.getD i ByteArray.empty := ⟨_, rfl⟩
        obtain ⟨y, hy⟩ : ∃ y, y = ys.getD i ByteArray.empty := ⟨_, rfl⟩
        rw [← hx] at hx1
        rw [← hy] at hy1
        have EX := Lib.hid hx
        have EY := Lib.hid hy
        clear hx hy
        have s1 : (0 : Int) ≤ (i : Int) := by omega
        have s2 : (i : Int) < (n : Int) := by omega
        go_wp2_with fail
        go_quiet (fail)
        cases hE : (x.toList == y.toList) with
        | true =>
          have HE := Lib.hid hE
          clear hE
          go_wp2_with fail
          go_roundg (n - (i + 1))
          case measure => have := HI.out; omega
          case rel =>
            have := HI.out
            refine ⟨i + 1, ⟨by omega, rfl, ?_⟩, by go_num, ⟨HD.out.step _⟩⟩
            have exy : x = y := toList_inj (by simpa using HE.out)
            rw [take_getD xs i (by rw [← HN.out]; exact hlt), take_getD ys i (by rw [← HM.out]; exact hlt), this.2.2, ← EX.out, ← EY.out, exy]
        | false =>
          have HE := Lib.hid hE
          clear hE
          go_wp2
          go_ret
          refine ⟨?_, HD.out.step _⟩
          have hne : ¬ xs = ys := by
            intro e
            have hE := HE.out
            rw [EX.out, EY.out, e] at hE
            simp at hE
          rw [decide_eq_false hne]
          rfl
      · have he : i = n := by omega
        subst he
        have h3 := HI.out.2.2
        rw [HN.out, List.take_length, ← HN.out, HM.out, List.take_length] at h3
        have HE := Lib.hid h3
        clear h3
        go_wp2
        go_ret
        exact ⟨by rw [decide_eq_true HE.out]; rfl, HD.out⟩
  · have e : decide (xs = ys) = false := decide_eq_false (fun h => hl (by rw [h]))
    rw [e]
    have d : ((xs.length : Int) != ys.length) = true := by simp; omega
    have d2 : ((xs.length : Int) == ys.length) = false := by simp; omega
    clear e
    go_enter Tryd.func18, Tryd.ntmps18
    go_wp2
    go_ret
    exact ⟨rfl, Drawn0.refl _⟩
end Go.Proofs.YtjhaaaljlpcnaaaDoor.S
