/- The net and the buffer, what is read of them: at, Ready, Dials, Written, Close; Open, Ready; Done. -/
import Derived.Test.YthcbjeeajoliiaaGreatDoorV5
import Derived.Test.YthcbjeeajoliiaaGreatDoorV1
import Derived.Test.YthcbjeeajoliiaaGreatDoorT1
import Derived.BigQuiet
import Derived.Deep.QuietTactic
set_option linter.unusedVariables false
set_option linter.unusedSimpArgs false
namespace Go.Proofs.YthcbjeeajoliiaaGreatDoor
open Go.RowKit

theorem fr_drewN (w : World) (n : Nat) : Fr No w (w.drewN n) := (Fr.refl No w).drewN n

set_option maxRecDepth 100000 in
theorem at_in (w : World) (gN i n c gr off : Nat) (p : Value) (h0 : w.cell? ⟨gN, 0, none⟩ = some (.slice (some ⟨gr, off, none⟩) n c)) (hi : i < n) (h1 : w.cell? ⟨gr, off + i, none⟩ = some p) :
    Calls Tryz.prog 34 #[.pointer (some ⟨gN, 0, none⟩), .int .i64 i] w fun e w' => e = .returned p ∧ w' = w := by
  have hi' : (i : Int) < (n : Int) := by omega
  go_enter Tryz.func34, Tryz.ntmps34
  go_wp2_with fail
  go_ret
  exact ⟨rfl, rfl⟩

/-- A client's connection to which nothing was sent nor written. -/
def qconnV (t c : Bool) : Array Value := #[.slice none 0 0, .int .i64 0, .bool false, .bool false, .bool t, .bool c, .string ⟨#[]⟩]

set_option maxRecDepth 100000 in
theorem ready_quiet (w : World) (gN i n c gr off b : Nat) (t cl : Bool) (h0 : w.cell? ⟨gN, 0, none⟩ = some (.slice (some ⟨gr, off, none⟩) n c)) (hi : i < n) (h1 : w.cell? ⟨gr, off + i, none⟩ = some (.pointer (some ⟨b, 0, none⟩))) (hb : Blk w b 70 (qconnV t cl)) :
    Calls Tryz.prog 47 #[.pointer (some ⟨gN, 0, none⟩), .int .i64 i] w fun e w' => e = .returned (.bool false) ∧ w' = w := by
  have HA := Lib.hid (at_in w gN i n c gr off _ h0 hi h1)
  have c0 : w.cell? ⟨b, 0, none⟩ = some (.slice none 0 0) := hb.cell 0
  have c2 : w.cell? ⟨b, 2, none⟩ = some (.bool false) := hb.cell 2
  have c3 : w.cell? ⟨b, 3, none⟩ = some (.bool false) := hb.cell 3
  clear h0 h1
  go_enter Tryz.func47, Tryz.ntmps47
  go_wp2_with (go_at_call 34; refine HA.out.mono (Hid.out ?_))
  refine Lib.hid ?_
  try simp only [and_imp, forall_exists_index]
  rintro e w1 rfl rfl
  go_wp2_with fail
  go_ret
  exact ⟨rfl, rfl⟩

set_option maxRecDepth 100000 in
theorem close_in (w : World) (gN i n c gr off b : Nat) (t : TypeId) (cs : Array Value) (v : Bool) (h0 : w.cell? ⟨gN, 0, none⟩ = some (.slice (some ⟨gr, off, none⟩) n c)) (hi : i < n) (h1 : w.cell? ⟨gr, off + i, none⟩ = some (.pointer (some ⟨b, 0, none⟩))) (hb : Blk w b 70 cs) (h5 : cs[5]? = some (.bool v)) :
    Calls Tryz.prog 48 #[.pointer (some ⟨gN, 0, none⟩), .int .i64 i] w fun e w' => e = .returned (.tuple #[]) ∧ Blk w' b 70 (cs.setIfInBounds 5 (.bool true)) ∧ Fr (fun k => k = b) w w' := by
  have HA := Lib.hid (at_in w gN i n c gr off _ h0 hi h1)
  have c5 : w.cell? ⟨b, 5, none⟩ = some (.bool v) := (hb.cell 5).trans h5
  have z5 : w.frozen? ⟨b, 5, none⟩ = false := hb.frozen 5
  clear h0 h1
  go_enter Tryz.func48, Tryz.ntmps48
  go_wp2_with (go_at_call 34; refine HA.out.mono (Hid.out ?_))
  refine Lib.hid ?_
  try simp only [and_imp, forall_exists_index]
  rintro e w1 rfl rfl
  go_wp2_with fail
  go_end0
  refine ⟨rfl, hb.set_ 5 _, Fr.setCell (Fr.refl _ _) ?_ _⟩
  intro _; rfl

set_option maxRecDepth 100000 in
theorem dials_at (w : World) (g : Nat) (A : Option Addr) (n c : Nat) (hc : w.cell? ⟨g, 1, none⟩ = some (.slice A n c)) :
    Calls Tryz.prog 49 #[.pointer (some ⟨g, 0, none⟩)] w fun e w' => e = .returned (.int .i64 n) ∧ w' = w := by
  go_enter Tryz.func49, Tryz.ntmps49
  go_wp2_with fail
  go_ret
  exact ⟨rfl, rfl⟩

set_option maxRecDepth 100000 in
theorem written_in (w : World) (gN i n c gr off b : Nat) (s : ByteArray) (h0 : w.cell? ⟨gN, 0, none⟩ = some (.slice (some ⟨gr, off, none⟩) n c)) (hi : i < n) (h1 : w.cell? ⟨gr, off + i, none⟩ = some (.pointer (some ⟨b, 0, none⟩))) (h6 : w.cell? ⟨b, 6, none⟩ = some (.string s)) :
    Calls Tryz.prog 17 #[.pointer (some ⟨gN, 0, none⟩), .int .i64 i] w fun e w' => e = .returned (.string s) ∧ w' = w := by
  have HA := Lib.hid (at_in w gN i n c gr off _ h0 hi h1)
  clear h0 h1
  go_enter Tryz.func17, Tryz.ntmps17
  go_wp2_with (go_at_call 34; refine HA.out.mono (Hid.out ?_))
  refine Lib.hid ?_
  try simp only [and_imp, forall_exists_index]
  rintro e w1 rfl rfl
  go_wp2_with fail
  go_ret
  exact ⟨rfl, rfl⟩

set_option maxRecDepth 100000 in
theorem open_at (w : World) (g : Nat) (a b : Int) (h1 : w.cell? ⟨g, 1, none⟩ = some (.int .i64 a)) (h2 : w.cell? ⟨g, 2, none⟩ = some (.int .i64 b)) (hs : IntKind.i64.wrap (a - b) = a - b) :
    Calls Tryz.prog 45 #[.pointer (some ⟨g, 0, none⟩)] w fun e w' => e = .returned (.int .i64 (a - b)) ∧ ∃ m, w' = w.drewN m := by
  go_enter Tryz.func45, Tryz.ntmps45
  go_wp2_with fail
  go_quiet (fail)
  go_wp2_with fail
  go_ret
  exact ⟨rfl, _, rfl⟩

set_option maxRecDepth 100000 in
theorem bready_none (w : World) (g : Nat) (a : Int) (h1 : w.cell? ⟨g, 1, none⟩ = some (.int .i64 a)) (h2 : w.cell? ⟨g, 2, none⟩ = some (.int .i64 a)) :
    Calls Tryz.prog 57 #[.pointer (some ⟨g, 0, none⟩)] w fun e w' => e = .returned (.bool false) ∧ ∃ m, w' = w.drewN m := by
  have hs : IntKind.i64.wrap (a - a) = a - a := by rw [Int.sub_self]; decide
  have HO := Lib.hid (fun n => open_at (w.drewN n) g a a h1 h2 hs)
  have hd : decide (0 < a - a) = false := by simp
  go_enter Tryz.func57, Tryz.ntmps57
  go_wp2_with fail
  go_quiet ((go_at_call 45; exact Calls.quiet_of (HO.out _)))
  go_wp2_with fail
  go_ret
  exact ⟨rfl, _, rfl⟩

set_option maxRecDepth 100000 in
theorem done_at (w : World) (g : Nat) (v : Bool) (h : w.cell? ⟨g, 13, none⟩ = some (.bool v)) :
    Calls Tryz.prog 46 #[.pointer (some ⟨g, 0, none⟩)] w fun e w' => e = .returned (.bool v) ∧ w' = w := by
  go_enter Tryz.func46, Tryz.ntmps46
  go_wp2_with fail
  go_ret
  exact ⟨rfl, rfl⟩
/-- A fresh cutter. -/
def cutterV : Array Value := #[.string ⟨#[]⟩, .slice none 0 0, .slice none 0 0, .int .i64 0, .string ⟨#[]⟩, .string ⟨#[]⟩, .slice none 0 0, .string ⟨#[]⟩, .bool false, .int .i64 0, .int .i64 0, .pointer none, .int .i64 0, .bool false]
set_option maxRecDepth 100000 in
theorem cutNew_any (w : World) :
    Calls Tryz.prog 69 #[] w fun e w' => e = .returned (.pointer (some ⟨w.heap.size, 0, none⟩)) ∧ w' = w.alloc (.cells cutterV 146) := by
  go_enter Tryz.func69, Tryz.ntmps69
  go_wp2_with fail
  go_ret
  exact ⟨rfl, rfl⟩

theorem infoRespP : (Tryz.prog.info? 166).map (fun i => (i.zero, i.size, i.bytes)) = some (some (.pointer none), 1, 8) := by kernel_rfl
def bufV (r n : Nat) : Array Value := #[.slice (some ⟨r, 0, none⟩) n n, .int .i64 0, .int .i64 0]
set_option maxRecDepth 100000 in
theorem reorderNew_any (w : World) (x : Int) :
    Calls Tryz.prog 68 #[.int .i64 x] w fun e w' => ∃ g r n : Nat, e = .returned (.pointer (some ⟨g, 0, none⟩)) ∧ w.heap.size ≤ g ∧ w.heap.size ≤ r ∧ (n : Int) = min (max x 1) 8 ∧ Blk w' g 141 (bufV r n) ∧ Blk w' r 166 (madeCells #[.pointer none] n) ∧ Fr No w w' := by
  have hmk := fun (n : Int) h0 h1 h2 => run_make_any (P := Tryz.prog) 139 166 _ 1 8 Tryz.underlying139 infoRespP n h0 h1 h2
  have key : ∀ m : Int, Blk ((w.alloc (.cells (madeCells #[.pointer none] m.toNat) 166)).alloc (.cells (bufV w.heap.size m.toNat) 141)) (w.heap.size + 1) 141 (bufV w.heap.size m.toNat) ∧ Blk ((w.alloc (.cells (madeCells #[.pointer none] m.toNat) 166)).alloc (.cells (bufV w.heap.size m.toNat) 141)) w.heap.size 166 (madeCells #[.pointer none] m.toNat) := by
    intro m
    have hq := Blk.new (w.alloc (.cells (madeCells #[.pointer none] m.toNat) 166)) 141 (bufV w.heap.size m.toNat)
    rw [World.size_alloc] at hq
    exact ⟨hq, (Blk.new w _ _).alloc _⟩
  have hcase : x < 1 ∨ 1 ≤ x ∧ x ≤ 8 ∨ 1 ≤ x ∧ 8 < x := by omega
  rcases hcase with hx | ⟨hx, hx2⟩ | ⟨hx, hx2⟩
  · have hmk1 := hmk 1 (by omega) (by omega) (by omega)
    clear hmk
    have HK := Lib.hid (key 1)
    go_enter Tryz.func68, Tryz.ntmps68
    go_wp2_with fail
    go_ret
    exact ⟨w.heap.size + 1, w.heap.size, (1 : Int).toNat, rfl, by omega, by omega, by omega, HK.out.1, HK.out.2, ((Fr.refl _ _).alloc _).alloc _⟩
  · have hmk1 := hmk x (by omega) (by omega) (by omega)
    clear hmk
    have HK := Lib.hid (key x)
    go_enter Tryz.func68, Tryz.ntmps68
    go_wp2_with fail
    go_ret
    exact ⟨w.heap.size + 1, w.heap.size, x.toNat, rfl, by omega, by omega, by omega, HK.out.1, HK.out.2, ((Fr.refl _ _).alloc _).alloc _⟩
  · have hmk1 := hmk 8 (by omega) (by omega) (by omega)
    clear hmk
    have HK := Lib.hid (key 8)
    go_enter Tryz.func68, Tryz.ntmps68
    go_wp2_with fail
    go_ret
    exact ⟨w.heap.size + 1, w.heap.size, (8 : Int).toNat, rfl, by omega, by omega, by omega, HK.out.1, HK.out.2, ((Fr.refl _ _).alloc _).alloc _⟩
end Go.Proofs.YthcbjeeajoliiaaGreatDoor
