/- The draws: what the cursor's next, pick, one, among and of do: a number below the bound, and only the cursor's own block turns. Conditions: the cursor's block and its bytes as 'Cur' says. -/
import Derived.Test.YtjhaaaljlpcnaaaDoorProg
import Derived.Test.YtjhaaaljlpcnaaaDoorWWords
import Derived.Lib.Hide
import Derived.BigQuiet
import Derived.Deep.QuietTactic
import Derived.Laws.Bits64b
import Derived.WalkSpells
namespace Go.Proofs.YtjhaaaljlpcnaaaDoor.U
open Go.RowKit Go.Proofs.YtjhaaaljlpcnaaaDoorW.PrintWords

/-- A cursor in block g, its bytes below block B, at most K draws behind it. -/
def Cur (B : Nat) (w : World) (g K : Nat) : Prop :=
  ∃ (A : Option Addr) (n c : Nat) (xs : List Int) (p : Nat) (sd : Int), w.heap[g]? = some (.cells #[.slice A n c, .int .i64 p, .int .u64 sd] 64 (0, 0)) ∧
    ReadsInt w .u8 A n xs ∧ (∀ x ∈ xs, 0 ≤ x ∧ x ≤ 255) ∧ (0 < n → ∀ ad, A = some ad → ad.block < B ∧ ad.block ≠ g) ∧ p ≤ K ∧ g < B ∧ B ≤ w.heap.size ∧ 0 ≤ sd ∧ sd < 18446744073709551616

theorem Cur.more {B : Nat} {w : World} {g K K' : Nat} (h : Cur B w g K) (hk : K ≤ K') : Cur B w g K' := by
  obtain ⟨A, n, c, xs, p, sd, h1, h2, h3, h4, h5, h6⟩ := h
  exact ⟨A, n, c, xs, p, sd, h1, h2, h3, h4, Nat.le_trans h5 hk, h6⟩

theorem reads_same {w w' : World} {k : IntKind} {A : Option Addr} {n : Nat} {xs : List Int} (h : ReadsInt w k A n xs) (hs : 0 < n → ∀ ad, A = some ad → w'.heap[ad.block]? = w.heap[ad.block]?) : ReadsInt w' k A n xs := by
  refine ⟨h.1, h.2.1, fun hn => ?_⟩
  obtain ⟨ad, e, hc⟩ := h.2.2 hn
  refine ⟨ad, e, fun j hj => ?_⟩
  rw [← hc j hj]
  refine World.cell?_of_block ?_
  have e2 : (ad.add j).block = ad.block := by unfold Addr.add; split <;> rfl
  rw [e2]
  exact hs hn ad e

theorem Cur.keep {B : Nat} {w w' : World} {g K : Nat} (h : Cur B w g K) (hb : ∀ k, k < B → w'.heap[k]? = w.heap[k]?) (hz : w.heap.size ≤ w'.heap.size) : Cur B w' g K := by
  obtain ⟨A, n, c, xs, p, sd, h1, h2, h3, h4, h5, h6, h7, h8⟩ := h
  exact ⟨A, n, c, xs, p, sd, (hb g h6).trans h1, reads_same h2 (fun hn ad e => hb _ (h4 hn ad e).1), h3, h4, h5, h6, Nat.le_trans h7 hz, h8⟩
theorem Cur.below {B : Nat} {w w' : World} {g K : Nat} (h : Cur B w g K) (hb : Below w.heap.size w w') : Cur B w' g K := by
  have hB : B ≤ w.heap.size := by obtain ⟨_, _, _, _, _, _, _, _, _, _, _, _, h7, _⟩ := h; exact h7
  exact h.keep (fun k hk => hb.block k (by omega)) hb.size

theorem and255 (a : Nat) (ha : a < 18446744073709551616) : ∃ n : Nat, n ≤ 255 ∧ bits .and .u64 (a : Int) 255 = (n : Int) := by
  refine ⟨a &&& 255, ?_, bits_and_u64_nat a 255 ha (by decide)⟩
  have := Nat.and_le_right (n := a) (m := 255)
  exact this

theorem u64r (n : Int) : 0 ≤ IntKind.u64.wrap n ∧ IntKind.u64.wrap n < 18446744073709551616 := by
  rw [IntKind.wrap_u64]
  omega

theorem moved {B : Nat} {w : World} {g K : Nat} {A : Option Addr} {n c : Nat} {xs : List Int} {p : Nat} {sd : Int} (h1 : w.heap[g]? = some (.cells #[.slice A n c, .int .i64 p, .int .u64 sd] 64 (0, 0)))
    (h2 : ReadsInt w .u8 A n xs) (h3 : ∀ x ∈ xs, 0 ≤ x ∧ x ≤ 255) (h4 : 0 < n → ∀ ad, A = some ad → ad.block < B ∧ ad.block ≠ g) (h5 : p ≤ K) (h6 : g < B) (h7 : B ≤ w.heap.size) (a b : Nat) (x : Int) :
    Cur B ((((w.drewN a).setCell ⟨g, 1, none⟩ (.int .i64 ((p : Int) + 1))).setCell ⟨g, 2, none⟩ (.int .u64 (IntKind.u64.wrap x))).drewN b) g (K + 1) ∧
    w.grownBy ((((w.drewN a).setCell ⟨g, 1, none⟩ (.int .i64 ((p : Int) + 1))).setCell ⟨g, 2, none⟩ (.int .u64 (IntKind.u64.wrap x))).drewN b) (some g) := by
  have hb : ∀ k, k ≠ g → ((((w.drewN a).setCell ⟨g, 1, none⟩ (.int .i64 ((p : Int) + 1))).setCell ⟨g, 2, none⟩ (.int .u64 (IntKind.u64.wrap x))).drewN b).heap[k]? = w.heap[k]? := by
    intro k hk
    show (((w.drewN a).setCell ⟨g, 1, none⟩ (.int .i64 ((p : Int) + 1))).setCell ⟨g, 2, none⟩ (.int .u64 (IntKind.u64.wrap x))).heap[k]? = w.heap[k]?
    rw [Below.heap_setCell _ _ _ _ hk, Below.heap_setCell _ _ _ _ hk]
    rfl
  have hz : ((((w.drewN a).setCell ⟨g, 1, none⟩ (.int .i64 ((p : Int) + 1))).setCell ⟨g, 2, none⟩ (.int .u64 (IntKind.u64.wrap x))).drewN b).heap.size = w.heap.size := by
    show (((w.drewN a).setCell ⟨g, 1, none⟩ (.int .i64 ((p : Int) + 1))).setCell ⟨g, 2, none⟩ (.int .u64 (IntKind.u64.wrap x))).heap.size = w.heap.size
    simp [World.setCell]
  have hg : ((((w.drewN a).setCell ⟨g, 1, none⟩ (.int .i64 ((p : Int) + 1))).setCell ⟨g, 2, none⟩ (.int .u64 (IntKind.u64.wrap x))).drewN b).heap[g]? = some (.cells #[.slice A n c, .int .i64 ((p + 1 : Nat) : Int), .int .u64 (IntKind.u64.wrap x)] 64 (0, 0)) := by
    have e := blk_set (blk_set (blk_drewN h1 a) 1 (.int .i64 ((p : Int) + 1))) 2 (.int .u64 (IntKind.u64.wrap x))
    exact blk_drewN e b
  refine ⟨⟨A, n, c, xs, p + 1, _, hg, reads_same h2 (fun hn ad e => hb _ (h4 hn ad e).2), h3, h4, by omega, h6, by omega, (u64r x).1, (u64r x).2⟩, rfl, rfl, rfl, by omega, fun k _ hk => hb k (fun e => hk (by rw [e]))⟩

theorem and_any (x : Int) : ∃ n : Nat, n ≤ 255 ∧ wrap64 (bits .and .u64 (IntKind.u64.wrap x / 1099511627776) 255) = (n : Int) := by
  obtain ⟨h0, h1⟩ := u64r x
  obtain ⟨a, ha⟩ : ∃ a : Nat, IntKind.u64.wrap x / 1099511627776 = (a : Int) := ⟨(IntKind.u64.wrap x / 1099511627776).toNat, by omega⟩
  obtain ⟨n, hn, e⟩ := and255 a (by omega)
  rw [ha, e]
  exact ⟨n, hn, by unfold wrap64; omega⟩

set_option maxHeartbeats 1000000 in
theorem next (B : Nat) (w : World) (g K : Nat) (h : Cur B w g K) (hK : K ≤ 1000000) :
    Calls Tryd.prog 64 #[.pointer (some ⟨g, 0, none⟩)] w fun e w' => ∃ n : Nat, n ≤ 255 ∧ e = .returned (.int .i64 n) ∧ Cur B w' g (K + 1) ∧ w.grownBy w' (some g) := by
  obtain ⟨A, n, c, xs, p, sd, h1, h2, h3, h4, h5, h6, h7, h8, h9⟩ := h
  have c0 := blk_cell h1 0
  have c1 := blk_cell h1 1
  have c2 := blk_cell h1 2
  have f1 := blk_frozen h1 1
  have f2 := blk_frozen h1 2
  simp at c0 c1 c2
  have hn := h2.2.1
  have HM := Lib.hid (fun a b x => moved h1 h2 h3 h4 h5 h6 h7 a b x)
  have H2 := Lib.hid h2
  have H3 := Lib.hid h3
  clear h1 h2 h3 h4 h6 h7 h8 h9
  by_cases hlt : p < n
  · obtain ⟨ad, rfl, hx⟩ := H2.out.at_ (p : Int) (by omega) (by omega)
    have hd : decide ((p : Int) < (n : Int)) = true := decide_eq_true (by omega)
    obtain ⟨x, hx0⟩ : ∃ x, x = rd xs (p : Int) := ⟨_, rfl⟩
    rw [← hx0, Int.toNat_natCast] at hx
    have hxr : 0 ≤ x ∧ x ≤ 255 := by
      have : rd xs (p : Int) = xs[p]'(by rw [H2.out.1]; exact hlt) := by
        unfold rd
        simp [H2.out.1, hlt]
      rw [hx0, this]
      exact H3.out _ (List.getElem_mem _)
    obtain ⟨hx1, hx2⟩ := hxr
    clear hx0
    have hd2 : decide ((p : Int) + 1 ≤ (n : Int)) = true := decide_eq_true (by omega)
    go_enter Tryd.func64, Tryd.ntmps64
    go_wp2_with fail
    go_quiet (fail)
    go_wp2_with fail
    go_quiet (fail)
    go_wp2_with fail
    go_quiet (fail)
    go_wp2_with fail
    go_ret
    exact ⟨x.toNat, by omega, congrArg (fun z => Ending.returned (.int .i64 z)) (by omega : x = ((x.toNat : Nat) : Int)), HM.out _ _ _⟩
  · have hd : decide ((p : Int) < (n : Int)) = false := decide_eq_false (by omega)
    have hd2 : decide ((p : Int) + 1 ≤ (n : Int)) = false := decide_eq_false (by omega)
    go_enter Tryd.func64, Tryd.ntmps64
    go_wp2_with fail
    go_quiet (fail)
    go_wp2_with fail
    go_quiet (fail)
    go_wp2_with fail
    go_ret
    obtain ⟨m, hm, e⟩ := and_any (IntKind.u64.wrap (IntKind.u64.wrap (sd * 6364136223846793005)) + 1442695040888963407)
    exact ⟨m, hm, congrArg (fun z => Ending.returned (.int .i64 z)) e, HM.out _ _ _⟩

theorem grown_then {w w1 w2 : World} {g : Nat} (h : w.grownBy w1 (some g)) (k : w1.grownBy w2 (some g)) : w.grownBy w2 (some g) :=
  ⟨k.os.trans h.os, k.tape.trans h.tape, k.output.trans h.output, Nat.le_trans h.size k.size, fun i hi hne => (k.block i (Nat.lt_of_lt_of_le hi h.size) hne).trans (h.block i hi hne)⟩
theorem grown_refl (w : World) (g : Nat) : w.grownBy w (some g) := ⟨rfl, rfl, rfl, Nat.le_refl _, fun _ _ _ => rfl⟩

def Picked (B : Nat) (w : World) (g K : Nat) (n : Int) (e : Ending) (w' : World) : Prop := ∃ m : Nat, (m = 0 ∨ (m : Int) < n) ∧ e = .returned (.int .i64 m) ∧ Cur B w' g K ∧ w.grownBy w' (some g)

theorem modn (x n : Int) (h : 1 < n) : ∃ m : Nat, (m : Int) < n ∧ x % n = (m : Int) := by
  have h1 := Int.emod_nonneg x (b := n) (by omega)
  have h2 := Int.emod_lt_of_pos x (b := n) (by omega)
  exact ⟨(x % n).toNat, by omega, by omega⟩
theorem reti {a b : Int} (h : a = b) : Ending.returned (.int .i64 a) = .returned (.int .i64 b) := by rw [h]

theorem pick (B : Nat) (w : World) (g K : Nat) (n : Int) (h : Cur B w g K) (hK : K ≤ 900000) (hn : n ≤ 1000000000) :
    Calls Tryd.prog 42 #[.pointer (some ⟨g, 0, none⟩), .int .i64 n] w (Picked B w g (K + 2) n) := by
  by_cases h1 : n ≤ 1
  · go_enter Tryd.func42, Tryd.ntmps42
    go_wp2
    go_ret
    exact ⟨0, .inl rfl, rfl, h.more (by omega), grown_refl _ _⟩
  · by_cases h2 : 200 < n
    · go_enter Tryd.func42, Tryd.ntmps42
      go_wp2_with fail
      refine (next B _ g K h (by omega)).mono ?_
      rintro e w1 ⟨n1, hn1, rfl, hC1, hg1⟩
      go_wp2_with fail
      refine (next B _ g (K + 1) hC1 (by omega)).mono ?_
      rintro e w2 ⟨n2, hn2, rfl, hC2, hg2⟩
      go_wp2
      go_ret
      obtain ⟨m, hm, e⟩ := modn ((n1 : Int) * 256 + n2) n (by omega)
      exact ⟨m, .inr hm, reti e, hC2, grown_then hg1 hg2⟩
    · go_enter Tryd.func42, Tryd.ntmps42
      go_wp2_with fail
      refine (next B _ g K h (by omega)).mono ?_
      rintro e w1 ⟨n1, hn1, rfl, hC1, hg1⟩
      go_wp2
      go_ret
      obtain ⟨m, hm, e⟩ := modn (n1 : Int) n (by omega)
      exact ⟨m, .inr hm, reti e, hC1.more (by omega), hg1⟩

def Oned (B : Nat) (w : World) (g K : Nat) (e : Ending) (w' : World) : Prop := ∃ b : Bool, e = .returned (.bool b) ∧ Cur B w' g K ∧ w.grownBy w' (some g)
theorem one (B : Nat) (w : World) (g K : Nat) (n : Int) (h : Cur B w g K) (hK : K ≤ 900000) (hn : n ≤ 1000000000) :
    Calls Tryd.prog 62 #[.pointer (some ⟨g, 0, none⟩), .int .i64 n] w (Oned B w g (K + 2)) := by
  go_enter Tryd.func62, Tryd.ntmps62
  go_wp2_with fail
  refine (pick B _ g K n h hK hn).mono ?_
  rintro e w1 ⟨m, hm, rfl, hC, hg⟩
  go_wp2
  go_ret
  exact ⟨_, rfl, hC, hg⟩

def Amonged (B : Nat) (w : World) (g K : Nat) (xs : List Int) (e : Ending) (w' : World) : Prop := ∃ x : Int, x ∈ xs ∧ e = .returned (.int .i64 x) ∧ Cur B w' g K ∧ w.grownBy w' (some g)
theorem among (B : Nat) (w : World) (g K : Nat) (A : Option Addr) (n c : Nat) (xs : List Int) (hx : ReadsInt w .i64 A n xs) (hA : ∀ ad, A = some ad → ad.block ≠ g ∧ ad.block < w.heap.size) (h1 : 1 ≤ n) (h2 : n ≤ 1000) (h : Cur B w g K) (hK : K ≤ 900000) :
    Calls Tryd.prog 51 #[.pointer (some ⟨g, 0, none⟩), .slice A n c] w (Amonged B w g (K + 2) xs) := by
  have HX := Lib.hid hx
  clear hx
  go_enter Tryd.func51, Tryd.ntmps51
  go_wp2_with fail
  refine (pick B _ g K n h hK (by omega)).mono ?_
  rintro e w1 ⟨m, hm, rfl, hC, hg⟩
  have hr : ReadsInt w1 .i64 A n xs := reads_same HX.out (fun _ ad e => hg.block _ (hA ad e).2 (fun q => (hA ad e).1 (Option.some.inj q)))
  have hlt : m < n := by omega
  obtain ⟨ad, rfl, hc⟩ := hr.at_ (m : Int) (by omega) (by omega)
  rw [Int.toNat_natCast] at hc
  have hmem : rd xs (m : Int) ∈ xs := by
    have : rd xs (m : Int) = xs[m]'(by rw [hr.1]; exact hlt) := by
      unfold rd
      simp [hr.1, hlt]
    rw [this]
    exact List.getElem_mem _
  obtain ⟨x, hx⟩ : ∃ x, x = rd xs (m : Int) := ⟨_, rfl⟩
  rw [← hx] at hc hmem
  clear hx hr
  go_wp2
  go_ret
  exact ⟨x, hmem, rfl, hC, hg⟩

def Ofed (B : Nat) (w : World) (g K : Nat) (xs : List ByteArray) (e : Ending) (w' : World) : Prop := ∃ x : ByteArray, x ∈ xs ∧ e = .returned (.string x) ∧ Cur B w' g K ∧ w.grownBy w' (some g)
theorem of (B : Nat) (w : World) (g K : Nat) (ad : Addr) (n c : Nat) (xs : List ByteArray) (hl : xs.length = n) (hx : ∀ j (hj : j < xs.length), w.cell? (ad.add j) = some (.string xs[j])) (hA : ad.block ≠ g ∧ ad.block < w.heap.size) (h1 : 1 ≤ n) (h2 : n ≤ 1000) (h : Cur B w g K) (hK : K ≤ 900000) :
    Calls Tryd.prog 67 #[.pointer (some ⟨g, 0, none⟩), .slice (some ad) n c] w (Ofed B w g (K + 2) xs) := by
  have HX := Lib.hid hx
  have HL := Lib.hid hl
  clear hx hl
  go_enter Tryd.func67, Tryd.ntmps67
  go_wp2_with fail
  refine (pick B _ g K n h hK (by omega)).mono ?_
  rintro e w1 ⟨m, hm, rfl, hC, hg⟩
  have hlt : m < n := by omega
  have hl := HL.out
  have hc : w1.cell? (ad.add m) = some (.string (xs[m]'(by omega))) := by
    rw [← HX.out m (by omega)]
    refine World.cell?_of_block ?_
    have e2 : (ad.add m).block = ad.block := by unfold Addr.add; split <;> rfl
    rw [e2]
    exact hg.block _ hA.2 (fun q => hA.1 (Option.some.inj q))
  have hmem : xs[m]'(by omega) ∈ xs := List.getElem_mem _
  obtain ⟨x, hx⟩ : ∃ x, x = xs[m]'(by omega) := ⟨_, rfl⟩
  rw [← hx] at hc hmem
  clear hx hl
  go_wp2
  go_ret
  exact ⟨x, hmem, rfl, hC, hg⟩
end Go.Proofs.YtjhaaaljlpcnaaaDoor.U
