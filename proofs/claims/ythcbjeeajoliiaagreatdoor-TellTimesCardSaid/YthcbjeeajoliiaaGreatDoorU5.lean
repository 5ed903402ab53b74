/- What a quiet server can do: nothing but take a client. -/
import Derived.Test.YthcbjeeajoliiaaGreatDoorU4
set_option linter.unusedVariables false
set_option linter.unusedSimpArgs false
namespace Go.Proofs.YthcbjeeajoliiaaGreatDoor
open Go.RowKit
open Cr (Str)

/-- The block and the facts of a client, by its number. -/
theorem QNet.client {B : Nat} {w : World} {gN : Nat} {bs ds : List Nat} (h : QNet B w gN bs ds) {i : Nat} (hi : i < bs.length) :
    ∃ gr k b t c, w.cell? ⟨gN, 0, none⟩ = some (.slice (some ⟨gr, 0, none⟩) bs.length k) ∧ w.cell? ⟨gr, 0 + i, none⟩ = some (.pointer (some ⟨b, 0, none⟩)) ∧ B ≤ b ∧ b ∈ bs ∧ Blk w b 70 (qconnV t c) := by
  obtain ⟨hbase, ⟨v, u, hb, hov, _⟩, hcs, hlt⟩ := h
  obtain ⟨gr, k0, rfl, hk0, hgr, hgrl⟩ := hov.ofPos (by omega)
  have hbb : bs[i]? = some bs[i] := by simp [hi]
  obtain ⟨hBb, t, c, hcb⟩ := hcs bs[i] (List.mem_of_getElem? hbb)
  refine ⟨gr, k0, bs[i], t, c, hb.cell 0, ?_, hBb, List.mem_of_getElem? hbb, hcb⟩
  rw [Nat.zero_add]
  exact hov.at_ (ptrsV_at hbb)

set_option maxRecDepth 100000 in
theorem late_quiet (w : World) (g b : Nat) (cs : Array Value) (hb : Blk w b 104 cs) (h6 : cs[6]? = some (.int .i64 (-1))) :
    Calls Tryz.prog 71 #[.pointer (some ⟨g, 0, none⟩), .pointer (some ⟨b, 0, none⟩)] w fun e w' => e = .returned (.bool false) ∧ ∃ m, w' = w.drewN m := by
  have c6 : w.cell? ⟨b, 6, none⟩ = some (.int .i64 (-1)) := (hb.cell 6).trans h6
  have hd : decide ((0 : Int) ≤ -1) = false := by decide
  go_enter Tryz.func71, Tryz.ntmps71
  go_wp2_with fail
  go_quiet (fail)
  go_wp2_with fail
  go_ret
  exact ⟨rfl, _, rfl⟩

set_option maxRecDepth 100000 in
theorem mayRead_quiet (B : Nat) (w : World) (g gN b id : Nat) (cs : Array Value) (bs ds : List Nat) (hs : Blk w g 39 cs) (h0 : cs[0]? = some (.pointer (some ⟨gN, 0, none⟩))) (hn : QNet B w gN bs ds) (hc : SConn B w b id) (hid : id < bs.length) :
    Calls Tryz.prog 51 #[.pointer (some ⟨g, 0, none⟩), .pointer (some ⟨b, 0, none⟩)] w fun e w' => e = .returned (.bool false) ∧ ∃ m, w' = w.drewN m := by
  obtain ⟨bb, cc, r, n, _, _, _, hcb, hbb, hcc⟩ := hc
  obtain ⟨gr, k, b', t, c, n0, n1, _, _, hb'⟩ := hn.client hid
  have HR := Lib.hid (fun m => ready_quiet (w.drewN m) gN id bs.length k gr 0 b' t c n0 hid n1 hb')
  have HL := Lib.hid (fun m => late_quiet (w.drewN m) g b _ hcb rfl)
  have HD := Lib.hid (done_at w cc false (hcc.cell 13))
  have s0 : w.cell? ⟨g, 0, none⟩ = some (.pointer (some ⟨gN, 0, none⟩)) := (hs.cell 0).trans h0
  have c1 : w.cell? ⟨b, 1, none⟩ = some (.int .i64 id) := hcb.cell 1
  have c2 : w.cell? ⟨b, 2, none⟩ = some (.pointer (some ⟨cc, 0, none⟩)) := hcb.cell 2
  have c4 : w.cell? ⟨b, 4, none⟩ = some (.pointer none) := hcb.cell 4
  have c5 : w.cell? ⟨b, 5, none⟩ = some (.bool false) := hcb.cell 5
  clear n0 n1 hn
  go_enter Tryz.func51, Tryz.ntmps51
  go_wp2_with (go_at_call 46; refine HD.out.mono (Hid.out ?_))
  refine Lib.hid ?_
  try simp only [and_imp, forall_exists_index]
  rintro e w1 rfl rfl
  go_wp2_with fail
  go_quiet (first | (go_at_call 47; exact Calls.quiet_of_same (HR.out _)) | (go_at_call 71; exact Calls.quiet_of (HL.out _)))
  go_wp2_with fail
  go_ret
  exact ⟨rfl, _, rfl⟩

set_option maxRecDepth 100000 in
theorem qlen_at (w : World) (g : Nat) (x : Int) (h : w.cell? ⟨g, 2, none⟩ = some (.int .i64 x)) :
    Calls Tryz.prog 60 #[.pointer (some ⟨g, 0, none⟩)] w fun e w' => e = .returned (.int .i64 x) ∧ w' = w := by
  go_enter Tryz.func60, Tryz.ntmps60
  go_wp2_with fail
  go_ret
  exact ⟨rfl, rfl⟩

theorem madeCells_at (z : Array Value) (n : Nat) (i : Nat) (hi : i < n) : (madeCells z n)[i]? = some (z[i % z.size]!) := by simp [madeCells, hi]

set_option maxRecDepth 100000 in
theorem mayWork_quiet (B : Nat) (w : World) (g : Nat) (p : SP) (vC : Value) (now : Int) (i : Nat) (hs : Blk w g 39 (srvV p vC now)) (hr : QRest B w p) (hi : i < p.wk) :
    Calls Tryz.prog 54 #[.pointer (some ⟨g, 0, none⟩), .int .i64 i] w fun e w' => e = .returned (.bool false) ∧ w' = w := by
  obtain ⟨_, ⟨r, n, _, _, _, hq, _⟩, ⟨_, hk⟩, h4⟩ := hr
  have HQ := Lib.hid (qlen_at w p.gq 0 (hq.cell 2))
  have s9 : w.cell? ⟨g, 9, none⟩ = some (.pointer (some ⟨p.gq, 0, none⟩)) := hs.cell 9
  have s11 : w.cell? ⟨g, 11, none⟩ = some (.slice (some ⟨p.gk, 0, none⟩) p.wk p.wk) := hs.cell 11
  have k0 : w.cell? ⟨p.gk, i * 26, none⟩ = some (.int .i64 0) := by
    rw [hk.cell, madeCells_at _ _ _ (by omega), show workerV.size = 26 from rfl, Nat.mul_mod_left]
    rfl
  have hi' : (i : Int) < (p.wk : Int) := by omega
  clear hq hk hs
  go_enter Tryz.func54, Tryz.ntmps54
  go_wp2_with (go_at_call 60; refine HQ.out.mono (Hid.out ?_))
  refine Lib.hid ?_
  try simp only [and_imp, forall_exists_index]
  rintro e w1 rfl rfl
  go_wp2_with fail
  go_ret
  exact ⟨rfl, rfl⟩
end Go.Proofs.YthcbjeeajoliiaaGreatDoor
