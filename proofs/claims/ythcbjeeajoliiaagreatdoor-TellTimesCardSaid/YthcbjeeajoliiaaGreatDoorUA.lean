/- What is told of a quiet server. -/
import Derived.Test.YthcbjeeajoliiaaGreatDoorSH
import Derived.Test.YthcbjeeajoliiaaGreatDoorW5
set_option linter.unusedVariables false
set_option linter.unusedSimpArgs false
namespace Go.Proofs.YthcbjeeajoliiaaGreatDoor
open Go.RowKit
open Cr (Str)

set_option maxRecDepth 100000 in
theorem mode_at (w : World) (g : Nat) (x : Int) (hc : w.cell? ⟨g, 13, none⟩ = some (.int .i64 x)) :
    Calls Tryz.prog 15 #[.pointer (some ⟨g, 0, none⟩)] w fun e w' => e = .returned (.int .i64 x) ∧ w' = w := by
  go_enter Tryz.func15, Tryz.ntmps15
  go_wp2_with fail
  go_ret
  exact ⟨rfl, rfl⟩
set_option maxRecDepth 100000 in
theorem live_at (w : World) (g : Nat) (A : Option Addr) (n c : Nat) (hc : w.cell? ⟨g, 10, none⟩ = some (.slice A n c)) :
    Calls Tryz.prog 13 #[.pointer (some ⟨g, 0, none⟩)] w fun e w' => e = .returned (.int .i64 n) ∧ w' = w := by
  go_enter Tryz.func13, Tryz.ntmps13
  go_wp2_with fail
  go_ret
  exact ⟨rfl, rfl⟩
set_option maxRecDepth 100000 in
theorem nowS_at (w : World) (g : Nat) (x : Int) (hc : w.cell? ⟨g, 12, none⟩ = some (.int .i64 x)) :
    Calls Tryz.prog 9 #[.pointer (some ⟨g, 0, none⟩)] w fun e w' => e = .returned (.int .i64 x) ∧ w' = w := by
  go_enter Tryz.func9, Tryz.ntmps9
  go_wp2_with fail
  go_ret
  exact ⟨rfl, rfl⟩
set_option maxRecDepth 100000 in
theorem queued_at (w : World) (g gq : Nat) (x : Int) (hc : w.cell? ⟨g, 9, none⟩ = some (.pointer (some ⟨gq, 0, none⟩))) (hq : w.cell? ⟨gq, 2, none⟩ = some (.int .i64 x)) :
    Calls Tryz.prog 38 #[.pointer (some ⟨g, 0, none⟩)] w fun e w' => e = .returned (.int .i64 x) ∧ w' = w := by
  have HQ := Lib.hid (qlen_at w gq x hq)
  clear hq
  go_enter Tryz.func38, Tryz.ntmps38
  go_wp2_with (go_at_call 60; refine HQ.out.mono (Hid.out ?_))
  refine Lib.hid ?_
  try simp only [and_imp, forall_exists_index]
  rintro e w1 rfl rfl
  go_wp2_with fail
  go_ret
  exact ⟨rfl, rfl⟩
set_option maxRecDepth 100000 in
theorem load_at (w : World) (gh : Nat) (q : Option Addr) (v : Int) (A : Option Addr) (n k : Nat) (hb : Blk w gh 133 #[.pointer q, .int .i64 v, .slice A n k]) :
    Calls Tryz.prog 63 #[.pointer (some ⟨gh, 0, none⟩)] w fun e w' => e = .returned (.agg #[.pointer q, .int .i64 v, .slice A n k]) ∧ Fr No w w' := by
  have hb2 := hb.alloc (.cells #[.pointer none, .int .i64 0, .slice none 0 0] 123)
  have c0 : (w.alloc (.cells #[.pointer none, .int .i64 0, .slice none 0 0] 123)).cell? ⟨gh, 0, none⟩ = some (.pointer q) := hb2.cell 0
  have c1 : (w.alloc (.cells #[.pointer none, .int .i64 0, .slice none 0 0] 123)).cell? ⟨gh, 1, none⟩ = some (.int .i64 v) := hb2.cell 1
  have c2 : (w.alloc (.cells #[.pointer none, .int .i64 0, .slice none 0 0] 123)).cell? ⟨gh, 2, none⟩ = some (.slice A n k) := hb2.cell 2
  go_enter Tryz.func63, Tryz.ntmps63
  go_wp2_with fail
  (try simp only [Exit.inBlock, Exit.then])
  have hres : Tryz.f63.results = #[.cell 2 123] := rfl
  have hn := Blk.new w 123 #[.pointer q, .int .i64 v, .slice A n k]
  have d0 : (w.alloc (.cells #[.pointer q, .int .i64 v, .slice A n k] 123)).cell? ⟨w.heap.size, 0, none⟩ = some (.pointer q) := hn.cell 0
  have d1 : (w.alloc (.cells #[.pointer q, .int .i64 v, .slice A n k] 123)).cell? ⟨w.heap.size, 1, none⟩ = some (.int .i64 v) := hn.cell 1
  have d2 : (w.alloc (.cells #[.pointer q, .int .i64 v, .slice A n k] 123)).cell? ⟨w.heap.size, 2, none⟩ = some (.slice A n k) := hn.cell 2
  refine bodyPost_ret (v := .agg #[.pointer q, .int .i64 v, .slice A n k]) ?_ rfl ⟨rfl, (Fr.refl _ _).alloc _⟩
  simp [results, hres, go_sem, d0, d1, d2]
set_option maxRecDepth 100000 in
theorem log_nil (w : World) (g : Nat) (hc : w.cell? ⟨g, 15, none⟩ = some (.slice none 0 0)) :
    Calls Tryz.prog 16 #[.pointer (some ⟨g, 0, none⟩)] w fun e w' => e = .returned (.slice none 0 0) ∧ w' = w := by
  go_enter Tryz.func16, Tryz.ntmps16
  go_wp2_with fail
  go_ret
  exact ⟨rfl, rfl⟩
set_option maxRecDepth 100000 in
theorem doneLines_nil (w : World) :
    Calls Tryz.prog 253 #[.slice none 0 0] w fun e w' => e = .returned (.slice none 0 0) ∧ w' = w := by
  go_enter Tryz.func253, Tryz.ntmps253
  go_wp2_with fail
  go_loopg [3, 8] 1 (fun gm v i wr => i = .int .i64 0 ∧ v = .slice none 0 0 ∧ wr = w)
  case atStart => exact ⟨rfl, rfl, rfl⟩
  case round =>
    obtain ⟨rfl, rfl, rfl⟩ := hrel
    go_wp2_with fail
    go_ret
    exact ⟨rfl, rfl⟩
set_option maxRecDepth 100000 in
theorem wiresLines_empty (P : Nat → Prop) (w : World) (A : Option Addr) (n c : Nat) (hr : Rd P w A (List.replicate n (.string ⟨#[]⟩))) (hn : n ≤ 9223372036854775807) :
    Calls Tryz.prog 238 #[.slice A n c] w fun e w' => e = .returned (.slice none 0 0) ∧ w' = w := by
  have hn' : (n : Int) ≤ 9223372036854775807 := by omega
  go_enter Tryz.func238, Tryz.ntmps238
  go_wp2_with fail
  go_loopg [3, 8] n (fun gm v i wr => ∃ k : Nat, k + gm = n ∧ i = .int .i64 k ∧ v = .slice none 0 0 ∧ wr = w)
  case atStart => exact ⟨0, by omega, rfl, rfl, rfl⟩
  case round =>
    obtain ⟨k, hkk, rfl, rfl, rfl⟩ := hrel
    by_cases hlt : k < n
    · have hlt' : (k : Int) < (n : Int) := by omega
      obtain ⟨gb, off, rfl, _, hcell⟩ := hr.form (by intro h; have := congrArg List.length h; simp at this; omega)
      have q0 := hcell k (.string ⟨#[]⟩) (by simp [hlt])
      clear hcell
      go_wp2_with fail
      go_roundg (gk - 1)
      case measure => omega
      case rel => exact ⟨k + 1, by omega, by go_num, rfl, rfl⟩
    · have hlt' : ¬ (k : Int) < (n : Int) := by omega
      go_wp2_with fail
      go_ret
      exact ⟨rfl, rfl⟩
end Go.Proofs.YthcbjeeajoliiaaGreatDoor
