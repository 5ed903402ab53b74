/- A header field as a map's key. -/
import Derived.Test.YthcbjeeajoliiaaGreatDoorW5
import Derived.Test.YthcbjeeajoliiaaGreatDoorR2
set_option linter.unusedVariables false
set_option linter.unusedSimpArgs false
namespace Go.Proofs.YthcbjeeajoliiaaGreatDoor
open Go.RowKit
open Cr (Str Rou)

theorem laidOut0 : laidOutB Tryz.prog = true := by kernel_rfl
theorem fieldRow : (181 : TypeId) < Tryz.prog.types.size := of_decide_eq_true (by kernel_rfl)
theorem fieldWide : (match Tryz.prog.underlying 181 with | some (.array _ _) | some (.struct _) => true | _ => false) = true := by rw [Tryz.underlying181]
set_option maxRecDepth 100000 in
theorem fieldKeyed : Go.Maps.Keyed Tryz.prog 181 := Go.Maps.Keyed.of_law (Go.deep_law_laid laidOut0 (m := 2) (by omega) fieldRow (by kernel_rfl) fieldWide)
def fldV (a b : Str) : Value := .agg #[.string ⟨a.toArray⟩, .string ⟨b.toArray⟩]
theorem fldV_inj {a b c d : Str} (h : fldV a b = fldV c d) : a = c ∧ b = d := by
  unfold fldV at h
  injection h with h
  have h1 := congrArg Array.toList h
  simp at h1
  exact h1
theorem field_key (a b : Str) (ha : (a.length : Int) ≤ 9223372036854775807) (hb : (b.length : Int) ≤ 9223372036854775807) : ∃ l, keyOf Tryz.prog 181 (fldV a b) = some l := by
  have h1 : Tryz.prog.keyType 181 = true := by kernel_rfl
  have h2 : (fldV a b).formed Tryz.prog 181 = true := by
    have : Tryz.prog.cellsOf 181 = 2 := by kernel_rfl
    simp [Value.formed, fldV, Tryz.underlying181, this]
  have hc : Tryz.prog.cellsOf 181 = 2 := by kernel_rfl
  have hs1 : Tryz.prog.cellsOf 9 = 1 := by kernel_rfl
  obtain ⟨m, hm⟩ : ∃ m, Tryz.prog.types.size = m + 1 := ⟨Tryz.prog.types.size - 1, by have : 0 < Tryz.prog.types.size := of_decide_eq_true (by kernel_rfl); omega⟩
  have ha' : (⟨a.toArray⟩ : ByteArray).size ≤ maxLen := by rw [str_size]; unfold maxLen; omega
  have hb' : (⟨b.toArray⟩ : ByteArray).size ≤ maxLen := by rw [str_size]; unfold maxLen; omega
  have hl : ∃ ls, Tryz.prog.keyLits (Tryz.prog.types.size + 1) 181 (fldV a b).cells.toList = some ls := by
    rw [hm]
    unfold Program.keyLits
    rw [Tryz.underlying181]
    simp [fldV, Value.cells, hc, hs1, Program.keyLits, Tryz.underlying9]
    rw [if_pos ha', if_pos hb']
    exact ⟨_, rfl⟩
  obtain ⟨ls, hls⟩ := hl
  unfold keyOf
  rw [Tryz.underlying181]
  simp only [h1, h2, hls, Bool.and_self, if_true, Option.map_some]
  exact ⟨_, rfl⟩
end Go.Proofs.YthcbjeeajoliiaaGreatDoor
