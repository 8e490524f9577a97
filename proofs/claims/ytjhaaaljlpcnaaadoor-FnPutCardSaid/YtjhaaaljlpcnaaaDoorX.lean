/- Contracts of functions that read Go's library: strings.Split and the program's readInt, in the form that the printed walks ask: in a world whose library variables hold what the program's text lays (GL). -/
import Derived.Test.YtjhaaaljlpcnaaaDoorShelf
import Derived.Test.YtjhaaaljlpcnaaaDoorWWords
import Derived.Test.YtjhaaaljlpcnaaaDoorWMore
import Derived.Lib.SmallJoins
import Derived.Lib.SplitLaws
import Derived.Lib.AtoiAllCases
import Derived.Lib.QuietBelow
import Derived.WalkKit
import Derived.KernelRfl
namespace Go.Proofs.YtjhaaaljlpcnaaaDoor.X
open Go.RowKit Go.Proofs.YtjhaaaljlpcnaaaDoorW.PrintWords Go.Proofs.YtjhaaaljlpcnaaaDoorW.PrintMore

/-- What the library's variables hold. -/
structure GL (w : World) : Prop where
  tab : Lib.TabIs Tryd.prog w "internal/strconv.uint64pow10" .u64 Lib.pow10Tab
  syn : ∃ tp p, w.var? Tryd.prog "strconv.ErrSyntax" = some #[.iface tp p]
  rng : ∃ tp p, w.var? Tryd.prog "strconv.ErrRange" = some #[.iface tp p]
  max : ∃ m, w.cell? ⟨2, 0, none⟩ = some (.int .i64 m)

theorem GL.below {w w' : World} (h : GL w) (hb : Below w.heap.size w w') : GL w' := by
  obtain ⟨h1, ⟨tp, p, h2⟩, ⟨tp', p', h3⟩, ⟨m, h4⟩⟩ := h
  exact ⟨Go.Joins.tab_stays (g := 5) (by kernel_rfl) h1 hb (Nat.le_refl _), ⟨tp, p, Go.Joins.var_stays (g := 0) (by kernel_rfl) h2 hb (Nat.le_refl _)⟩,
    ⟨tp', p', Go.Joins.var_stays (g := 1) (by kernel_rfl) h3 hb (Nat.le_refl _)⟩, ⟨m, pw_cell_below hb h4⟩⟩

def strings_Split.f (s sep : ByteArray) : Option (List ByteArray) :=
  if s.size < 4294967281 ∧ 1 ≤ sep.size then some (Lib.splitB sep 0 (Lib.countB s sep) s) else none

theorem strings_Split.calls (a0 : ByteArray) (a1 : ByteArray) (r : List ByteArray) (w : World) (hG : GL w) (h : strings_Split.f a0 a1 = some r) :
    Calls Tryd.prog 60 #[.string a0, .string a1] w fun e w' => ∃ v0_ : Value, e = .returned (v0_) ∧ Kd.R Kd.string 9 w' w.heap.size (fun _ => True) v0_ r ∧ Below w.heap.size w w' := by
  unfold strings_Split.f at h
  split at h
  · rename_i hc
    obtain rfl := Option.some.inj h
    obtain ⟨m, hm⟩ := hG.max
    refine (Tryd.strings_Split a0 a1 m w hc.1 hm hc.2).mono ?_
    rintro e w' ⟨rfl, rfl⟩
    have hl : (Lib.splitB a1 0 (Lib.countB a0 a1) a0).length = Lib.countB a0 a1 + 1 := Lib.splitB_all a1 hc.2 0 _ _ rfl
    have hs : Lib.countB a0 a1 + 1 ≤ 9223372036854775807 := by
      have := Lib.countB_le a1 hc.2 _ a0 (Nat.le_refl _)
      omega
    refine ⟨_, rfl, ?_, below_alloc (Below.refl _ _) _⟩
    rw [← hl]
    exact Kd.R_of_own (own_lit_of (enc := Value.string) w w.heap.size 9 _ (Nat.le_refl _) (by omega)) (fun _ _ => trivial)
  · cases h

def impl_readInt.f (s : ByteArray) : Option (Int × Bool) :=
  if s.size ≤ 281474976710656 then
    some (match Lib.atoiAll s.data.toList with
      | .ok v => if Lib.itoa v = s.data.toList then (v, true) else (0, false)
      | _ => (0, false))
  else none

theorem below_grow (w : World) (k : Nat) (os : Array Obj) : Below w.heap.size w (Go.Sort.grow (w.drewN k) os) :=
  ⟨rfl, rfl, rfl, by simp [Go.Sort.grow], fun i hi => by simp [Go.Sort.grow, Array.getElem?_append_left hi]⟩

theorem itoa_b (n : Int) (h0 : -9223372036854775808 ≤ n) (h1 : n ≤ 9223372036854775807) (w : World) (hG : GL w) :
    Calls Tryd.prog 76 #[.int .i64 n] w fun e w' => e = .returned (.string ⟨(Lib.itoa n).toArray⟩) ∧ Below w.heap.size w w' := by
  refine (Tryd.strconv_Itoa n h0 h1 w hG.tab).mono ?_
  rintro e w' ⟨rfl, k, os, rfl⟩
  exact ⟨rfl, below_grow _ _ _⟩
theorem atoi_ok (s : ByteArray) (hs : s.size ≤ 281474976710656) (v : Int) (h : Lib.atoiAll s.data.toList = .ok v) (w : World) :
    Calls Tryd.prog 65 #[.string s] w fun e w' => e = .returned (.tuple #[.int .i64 v, .nilIface]) ∧ Below w.heap.size w w' := by
  refine (Tryd.strconv_Atoi_ok s (by omega) v h w).mono ?_
  rintro e w' ⟨rfl, rfl | ⟨t, rfl⟩⟩
  · exact ⟨rfl, Below.refl _ _⟩
  · exact ⟨rfl, Lib.bytesWorld_below _ _ _⟩
theorem atoi_bad (s : ByteArray) (hs : s.size ≤ 281474976710656) (h : ∀ v, Lib.atoiAll s.data.toList ≠ .ok v) (w : World) (hG : GL w) :
    Calls Tryd.prog 65 #[.string s] w fun e w' => ∃ x N, e = .returned (.tuple #[.int .i64 x, .iface 102 (.pointer (some ⟨N, 0, none⟩))]) ∧ Below w.heap.size w w' := by
  rcases hh : Lib.atoiAll s.data.toList with v | _ | _
  · exact absurd hh (h v)
  · obtain ⟨tp, p, hv⟩ := hG.syn
    refine (Any.strconv_Atoi_syntax_var Tryd.laysC172 s hs hh tp p w hv).mono ?_
    rintro e w' ⟨N, rfl, _, _, hb⟩
    exact ⟨_, N, rfl, hb⟩
  · obtain ⟨tp, p, hv⟩ := hG.rng
    refine (Tryd.strconv_Atoi_range_var s hs hh tp p w hv).mono ?_
    rintro e w' ⟨N, rfl, _, _, hb⟩
    exact ⟨_, N, rfl, hb⟩

theorem impl_readInt.calls (a0 : ByteArray) (r1 : Int) (r2 : Bool) (w : World) (hG : GL w) (h : impl_readInt.f a0 = some (r1, r2)) :
    Calls Tryd.prog 72 #[.string a0] w fun e w' => e = .returned (.tuple #[.int .i64 r1, .bool r2]) ∧ Below w.heap.size w w' := by
  unfold impl_readInt.f at h
  split at h
  · rename_i hs
    have h := Option.some.inj h
    by_cases hok : ∃ v, Lib.atoiAll a0.data.toList = .ok v
    · obtain ⟨v, hv⟩ := hok
      rw [hv] at h
      obtain ⟨hv0, hv1⟩ := Lib.atoiAll_bounds hv
      have HA := fun W => atoi_ok a0 hs v hv W
      clear hv
      go_enter Tryd.func72, Tryd.ntmps72
      go_wp2_with (first | (go_at_call 65; refine (HA _).mono ?_; rintro e w1 ⟨rfl, hb1⟩) | (go_at_call 76; refine (itoa_b v hv0 hv1 _ (hG.below hb1)).mono ?_; rintro e w2 ⟨rfl, hb2⟩))
      · have hne : ¬ Lib.itoa v = a0.toList := by
          intro he
          simp [he] at *
        have hne' : ¬ Lib.itoa v = a0.data.toList := Lib.toList_data a0 ▸ hne
        simp only [if_neg hne', Prod.mk.injEq] at h
        obtain ⟨rfl, rfl⟩ := h
        go_ret2
        exact ⟨rfl, below_then hb1 hb1.size hb2⟩
      · have hne : Lib.itoa v = a0.toList := by simpa using ‹(!Lib.itoa v == a0.toList) = false›
        have hne' : Lib.itoa v = a0.data.toList := Lib.toList_data a0 ▸ hne
        simp only [if_pos hne', Prod.mk.injEq] at h
        obtain ⟨rfl, rfl⟩ := h
        go_ret2
        exact ⟨rfl, below_then hb1 hb1.size hb2⟩
    · have hno : ∀ v, Lib.atoiAll a0.data.toList ≠ .ok v := fun v hv => hok ⟨v, hv⟩
      have h' : ((0 : Int), false) = (r1, r2) := by
        rw [← h]
        rcases hh : Lib.atoiAll a0.data.toList with v | _ | _
        · exact absurd hh (hno v)
        · rfl
        · rfl
      obtain ⟨rfl, rfl⟩ := Prod.mk.injEq .. ▸ h'
      clear h h'
      have HA := fun W hW => atoi_bad a0 hs hno W hW
      clear hno hok
      go_enter Tryd.func72, Tryd.ntmps72
      go_wp2_with (first | (go_at_call 65; refine (HA _ hG).mono ?_; rintro e w1 ⟨x, N, rfl, hb1⟩))
      go_ret2
      exact ⟨rfl, hb1⟩
  · cases h

end Go.Proofs.YtjhaaaljlpcnaaaDoor.X
