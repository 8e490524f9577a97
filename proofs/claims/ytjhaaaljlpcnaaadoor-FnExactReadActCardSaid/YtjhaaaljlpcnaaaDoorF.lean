/- The statement FnExactReadAct as a walk: every text; the library's variables as the program lays them. -/
import Derived.Test.YtjhaaaljlpcnaaaDoorYd
namespace Go.Proofs.YtjhaaaljlpcnaaaDoor.Y
open Go.RowKit Go.Proofs.YtjhaaaljlpcnaaaDoorW.PrintWords Go.Proofs.YtjhaaaljlpcnaaaDoorW.PrintMore Go.Proofs.YtjhaaaljlpcnaaaDoor.X Go.Proofs.YtjhaaaljlpcnaaaDoor.A

theorem seven {α : Type} (l : List α) (h : l.length = 7) : ∃ a0 a1 a2 a3 a4 a5 a6, l = [a0, a1, a2, a3, a4, a5, a6] := by
  match l, h with
  | [a0, a1, a2, a3, a4, a5, a6], _ => exact ⟨a0, a1, a2, a3, a4, a5, a6, rfl⟩

/-- What the two give on a text of moderate length. -/
theorem both (s : ByteArray) (hs : s.size ≤ 1048576) : ∃ (a0 a1 a2 a3 a4 a5 a6 : Int) (r : Bool),
    (∀ W, Calls Tryd.prog 6 #[.string s] W fun e w' => e = .returned (.tuple #[agg7 a0 a1 a2 a3 a4 a5 a6, .bool r]) ∧ Below W.heap.size W w') ∧
    (∀ W, GL W → Calls Tryd.prog 40 #[.string s] W fun e w' => e = .returned (.tuple #[agg7 a0 a1 a2 a3 a4 a5 a6, .bool r]) ∧ Below W.heap.size W w') := by
  obtain ⟨kS, ws, hS, iS⟩ := splitS_f s hs
  obtain ⟨ws', hI, iI⟩ := splitI_f s hs
  obtain rfl : ws = ws' := by
    have h := iS.uniq iI
    exact (List.map_inj_right (fun a b hab => Go.WideShapes.bytes_inj hab)).1 h
  obtain ⟨hlen, hcount⟩ := isSplit_len iS
  have hw : ∀ w ∈ ws, w.size ≤ 281474976710656 := by
    intro w hw
    have := hlen w.data.toList (List.mem_map_of_mem hw)
    simp at this
    omega
  have hl : ws.length ≤ 1048577 := by
    simp at hcount
    omega
  obtain ⟨kR, hR⟩ := readInts_f ws hw hl
  have spec_no : (ws.length = 7 → ¬ ((ws.map rdW).all p999 = true ∧ textL (ws.map rdW) = s.data.toList)) →
      ∀ W, Calls Tryd.prog 6 #[.string s] W fun e w' => e = .returned (.tuple #[agg7 0 0 0 0 0 0 0, .bool false]) ∧ Below W.heap.size W w' := by
    intro hno W
    by_cases h60 : 60 < s.size
    · exact specRead_long kS s ws W hS h60
    · by_cases h7 : ws.length = 7
      · obtain ⟨s0, s1, s2, s3, s4, s5, s6, rfl⟩ := seven ws h7
        refine specRead7 kS s s0 s1 s2 s3 s4 s5 s6 W hS (by omega) _ _ _ _ _ _ _ rfl 0 0 0 0 0 0 0 false (.inl ⟨?_, rfl, rfl⟩)
        have := hno rfl
        by_cases hk : ok7 (rdW s0) (rdW s1) (rdW s2) (rdW s3) (rdW s4) (rdW s5) (rdW s6) = true
        · exact .inr ⟨hk, fun ht => this ⟨hk, ht⟩⟩
        · exact .inl (by simpa using hk)
      · exact specRead_len kS s ws W hS (by omega) h7
  by_cases hne : ws = []
  · obtain ⟨init, last, e, _⟩ := iS
    rw [hne] at e
    simp at e
  obtain ⟨hiff, hsame⟩ := same7 s.data.toList ws iS hne
  by_cases hall : ws.all (fun w => (rv w).2) = true
  · rw [if_pos hall] at hR
    by_cases h7 : ws.length = 7
    · obtain ⟨kW, hW⟩ := within_f (ws.map fun w => (rv w).1) (by simp; omega)
      by_cases hp : (ws.map fun w => (rv w).1).all p999 = true
      · have e := hsame hall hp
        obtain ⟨hok, ht⟩ := hiff.2 ⟨hall, hp⟩
        have h60 : s.size ≤ 60 := by
          have := text_short (ws.map rdW) hok
          rw [ht] at this
          simp at this
          omega
        rw [hp] at hW
        rw [← e] at hW hR
        obtain ⟨s0, s1, s2, s3, s4, s5, s6, rfl⟩ := seven ws h7
        refine ⟨rdW s0, rdW s1, rdW s2, rdW s3, rdW s4, rdW s5, rdW s6, true, fun W => ?_, fun W hG => ?_⟩
        · exact specRead7 kS s s0 s1 s2 s3 s4 s5 s6 W hS h60 _ _ _ _ _ _ _ rfl _ _ _ _ _ _ _ true (.inr ⟨hok, ht, rfl, rfl⟩)
        · have hR' := more (impl_readInts.mono [s0, s1, s2, s3, s4, s5, s6]) hR kW
          have hW' := more (impl_allWithin.mono _ 0 999) hW kR
          rw [Nat.add_comm] at hW'
          exact readAct_yes (kR + kW) s _ _ _ _ _ _ _ _ W hG hI hR' hW'
      · have hp' : (ws.map fun w => (rv w).1).all p999 = false := by simpa using hp
        rw [hp'] at hW
        refine ⟨0, 0, 0, 0, 0, 0, 0, false, spec_no (fun _ h => hp (hiff.1 h).2), fun W hG => ?_⟩
        have hR' := more (impl_readInts.mono ws) hR kW
        have hW' := more (impl_allWithin.mono _ 0 999) hW kR
        rw [Nat.add_comm] at hW'
        exact readAct_all (kR + kW) s ws _ W hG hI hR' (by simpa using h7) hW'
    · exact ⟨0, 0, 0, 0, 0, 0, 0, false, spec_no (fun h => absurd h h7), fun W hG => readAct_len kR s ws _ W hG hI hR (by simpa using h7)⟩
  · rw [if_neg hall] at hR
    exact ⟨0, 0, 0, 0, 0, 0, 0, false, spec_no (fun _ h => hall (hiff.1 h).1), fun W hG => readAct_bad kR s ws _ W hG hI hR⟩

theorem law_all (s : ByteArray) (w : World) (hG : GL w) : Calls Tryd.prog 3 #[.string s] w fun e w' => e = .returned (.bool true) ∧ Below w.heap.size w w' := by
  by_cases h : 1048576 < s.size
  · exact law_big s w h
  · obtain ⟨a0, a1, a2, a3, a4, a5, a6, r, h1, h2⟩ := both s (by omega)
    exact law_small s w hG (by omega) a0 a1 a2 a3 a4 a5 a6 r h1 (fun W hW => readActP s W hW h2)
end Go.Proofs.YtjhaaaljlpcnaaaDoor.Y
