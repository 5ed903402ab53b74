/- What a list of acts that came in leads to; what bytes that came in lead to. -/
import Derived.Test.YthpoiopfmjeklaaRows
import Derived.Test.YthpoiopfmjeklaaS4
import Derived.ProofKit
import Derived.OpenShut
import Derived.ShutString
import Derived.ChangeOld
import Derived.Below
import Derived.Deep.Slices
import Derived.Lib.SmallJoins
set_option linter.unusedVariables false
set_option linter.unusedSimpArgs false
namespace Go.Proofs.Ythpoiopfmjeklaa
open Go.RowKit Go.Deep Go.ChangeShapes Go.WideShapes Go.ChangeAt Go.Joins
open Go.ChangeMaps (open_string shut_string)
open Cr (Str ActM)

instance : Inhabited ActM := ⟨⟨0, 0, 0, []⟩⟩

theorem own : ownKnob Try.prog.godebug = none := by kernel_rfl
theorem laidOut : laidOutB Try.prog = true := by kernel_rfl

theorem actCells : Try.prog.cellsOf 29 = 4 := by kernel_rfl

section
variable {H : Type} {enc : TypeId × Value → H} {w : World} {base : Nat} {spare : Nat → Bool} {held : Bool}
theorem open_act {n : Nat} {cs : List Value} {x : DataW H × List MemPlace} (h : DataW.trod enc Try.prog w base spare held n 29 cs = some x) :
    ∃ a : ActM, cs = actV a ∧ a.data.length ≤ maxLen := by
  obtain ⟨y0, y1, y2, y3, m, rfl, hl, h0, h1, h2, h3⟩ := trod_struct4 Try.underlying29 h
  rw [actCells] at hl
  match cs, hl with
  | [c0, c1, c2, c3], _ =>
    have i1 : Try.prog.cellsOf 3 = 1 := by kernel_rfl
    have i2 : Try.prog.cellsOf 9 = 1 := by kernel_rfl
    simp only [i1, i2, List.drop_zero, List.drop_succ_cons, List.take_succ_cons, List.take_zero] at h0 h1 h2 h3
    obtain ⟨a0, e0, _, _⟩ := DataW.trod_int Try.underlying3 h0
    obtain ⟨a1, e1, _, _⟩ := DataW.trod_int Try.underlying3 h1
    obtain ⟨a2, e2, _, _⟩ := DataW.trod_int Try.underlying3 h2
    obtain ⟨s, e3, _, hs⟩ := DataW.trod_string Try.underlying9 h3
    simp only [List.cons.injEq, and_true] at e0 e1 e2 e3
    subst e0 e1 e2 e3
    refine ⟨⟨a0, a1, a2, s.data.toList⟩, ?_, ?_⟩
    · simp [actV]
    · show s.data.toList.length ≤ maxLen
      rw [← Lib.size_eq]; exact hs
theorem open_acts {fuel : Nat} {cs : List Value} {x : DataW H × List MemPlace} (h : DataW.trod enc Try.prog w base spare held fuel 22 cs = some x) :
    ∃ A c l, cs = [.slice A (List.length l) c] ∧ l.length ≤ c ∧ c ≤ maxLen ∧ Rd (fun k => k < w.heap.size) w A (actsV l) ∧ ∀ a ∈ l, a.data.length ≤ maxLen := by
  rcases open_slice Try.underlying22 h with ⟨rfl, rfl⟩ | ⟨ad, len, cap, m, n, D, Pl, rfl, hb, hl, hm, hmm, rfl, hx⟩
  · exact ⟨none, 0, [], rfl, Nat.le_refl _, Nat.zero_le _, Rd.nil _ _ _, by simp⟩
  · have hlm : len ≤ m := by rw [hmm]; split <;> omega
    rw [actCells] at hx
    obtain ⟨F, hF⟩ := choose_lt (α := ActM) (n := len) (p := fun i a => w.cells? base (ad.add (i * 4)) 4 = some (actV a) ∧ a.data.length ≤ maxLen) (fun i hi => by
      obtain ⟨cs', h1, h2⟩ := hx i (by omega)
      obtain ⟨a, rfl, ha⟩ := open_act h2
      exact ⟨a, h1, ha⟩)
    refine ⟨some ad, cap, (List.range len).map F, by simp, by simpa using hl, hm, ?_, ?_⟩
    · intro hne
      have hcell : ∀ i, i < len → ∀ j, j < 4 → w.cell? (ad.add (i * 4 + j)) = (actV (F i))[j]? := fun i hi j hj => by
        have := (World.cells?_some (hF i hi).1).2.2 j hj
        rw [add_add] at this
        exact this
      have hpos : 0 < len := by
        rcases Nat.eq_zero_or_pos len with h0 | h0
        · subst h0; simp [actsV] at hne
        · exact h0
      have hs : ad.spot = none := by
        have h0 := hcell 0 hpos 0 (by omega)
        simp only [Nat.zero_mul, Nat.zero_add, Addr.add, if_true] at h0
        exact World.cell?_spot (v := .int .i64 (F 0).kind) (by rw [h0]; rfl)
      refine ⟨ad, rfl, ?_, hs, ?_⟩
      · have h0 := hcell 0 hpos 0 (by omega)
        simp only [Nat.zero_mul, Nat.zero_add, Addr.add, if_true] at h0
        exact World.block_lt_of_cell? w ad (u := .int .i64 (F 0).kind) (by rw [h0]; rfl)
      · intro j u hu
        rw [← add_eq_off ad hs]
        have hj : j < (actsV ((List.range len).map F)).length := (List.getElem?_eq_some_iff.1 hu).1
        rw [actsV_length] at hj
        simp only [List.length_map, List.length_range] at hj
        have hq : j / 4 < len := by omega
        have e := flat_get actV 4 (fun _ => rfl) ((List.range len).map F) (j / 4) (F (j / 4)) (by simp [hq]) (j % 4) (by omega)
        have hc := hcell (j / 4) hq (j % 4) (by omega)
        rw [show j / 4 * 4 + j % 4 = j from by omega] at e hc
        rw [hc, ← e]
        exact hu
    · intro a ha
      obtain ⟨i, hi, rfl⟩ := List.mem_map.1 ha
      exact (hF i (List.mem_range.1 hi)).2

theorem open_bytes {fuel : Nat} {cs : List Value} {x : DataW H × List MemPlace} (h : DataW.trod enc Try.prog w base spare held fuel 26 cs = some x) :
    ∃ A c l, cs = [.slice A (List.length l) c] ∧ l.length ≤ c ∧ c ≤ maxLen ∧ Rd (fun k => k < w.heap.size) w A (byV l) := by
  rcases open_ints Try.underlying26 Try.underlying5 (by kernel_rfl) h with ⟨rfl, _⟩ | ⟨ad, len, cap, zs, rfl, _, hl, hm, hz, _, hcell, hwz⟩
  · exact ⟨none, 0, [], rfl, Nat.le_refl _, Nat.zero_le _, Rd.nil _ _ _⟩
  · have hzl : len ≤ zs.length := by rw [hz]; split <;> omega
    refine ⟨some ad, cap, (zs.take len).map fun z => UInt8.ofNat z.toNat, ?_, ?_, hm, ?_⟩
    · simp only [List.length_map, List.length_take]
      rw [Nat.min_eq_left hzl]
    · simp; omega
    · intro hne
      have hpos : 0 < zs.length := by
        rcases Nat.eq_zero_or_pos zs.length with h0 | h0
        · rw [List.eq_nil_of_length_eq_zero h0] at hne; simp [byV] at hne
        · exact h0
      have h0 := hcell 0 hpos
      simp only [Addr.add, if_true] at h0
      have hs : ad.spot = none := World.cell?_spot h0
      refine ⟨ad, rfl, World.block_lt_of_cell? w ad h0, hs, ?_⟩
      intro j u hu
      rw [← add_eq_off ad hs]
      simp only [byV, List.map_map, List.getElem?_map, List.getElem?_take] at hu
      split at hu
      · rename_i hj
        have hj' : j < zs.length := by
          rcases Nat.lt_or_ge j zs.length with h1 | h1
          · exact h1
          · rw [List.getElem?_eq_none h1] at hu; cases hu
        rw [List.getElem?_eq_getElem hj'] at hu
        simp only [Option.map_some, Option.some.injEq, Function.comp] at hu
        subst hu
        rw [hcell j hj']
        have hwf := hwz _ (List.getElem_mem hj')
        have hb : 0 ≤ zs[j] ∧ zs[j] < 256 := by have := hwf; simp [Lit.wf, IntKind.min, IntKind.max, IntKind.bits, IntKind.signed] at this; omega
        congr 2
        rw [List.getD_eq_getElem?_getD, List.getElem?_eq_getElem hj', Option.getD_some, UInt8.toNat_ofNat']
        omega
      · cases hu
end
end Go.Proofs.Ythpoiopfmjeklaa
