/- A quiet server's acts: Dial, Step, Tick. -/
import Derived.Test.YthcbjeeajoliiaaGreatDoorU6
import Derived.Test.YthcbjeeajoliiaaGreatDoorU8
set_option linter.unusedVariables false
set_option linter.unusedSimpArgs false
namespace Go.Proofs.YthcbjeeajoliiaaGreatDoor
open Go.RowKit
open Cr (Str)

/-- While nobody was taken. -/
structure QStD (B : Nat) (w : World) (g : Nat) (p : SP) (bs ds : List Nat) : Prop where
  st : QSt B w g p [] bs ds 0
  net : QNetD B w p.gN bs ds

theorem QStD.new {w w' : World} {c : Cr.Cfg} {e : Ending} (h : SrvNew w c e w') : ∃ g p, e = .returned (.pointer (some ⟨g, 0, none⟩)) ∧ QStD w.heap.size w' g p [] [] ∧ p.conns = bringI c.conns 8 ∧ p.idle = bringI c.idle 1073741824 ∧ Fr No w w' := by
  obtain ⟨g, gN, gW, gq, gk, he, hg, hN, hW, hQ, hK, hb, hf⟩ := h
  have hk := bringI_le c.workers 4 (by omega)
  have hn := QNetD.new hN
  exact ⟨g, ⟨gN, gW, gq, gk, (bringI c.workers 4).toNat, bringI c.conns 8, c.jobs, bringI c.workers 4, c.window, bringI c.idle 1073741824, bringI c.drain 1073741824, c.token⟩, he,
    ⟨⟨hg, ⟨_, hb, ⟨by simp [ptrsV], .inl ⟨rfl, rfl⟩⟩⟩, by simp, hn.quiet, ⟨hW, hQ, hK, by show (bringI c.workers 4).toNat ≤ 4; omega⟩⟩, hn⟩, rfl, rfl, hf⟩

set_option maxRecDepth 100000 in
theorem do_dial_quiet (B : Nat) (w : World) (g : Nat) (p : SP) (bs ds : List Nat) (c n : Int) (s : ByteArray) (h : QStD B w g p bs ds) (hB : B ≤ w.heap.size) (hn : bs.length ≤ 1000) (hd : ds.length ≤ 1000) :
    Calls Tryz.prog 12 #[.pointer (some ⟨g, 0, none⟩), .agg #[.int .i64 0, .int .i64 c, .int .i64 n, .string s]] w fun e w' => e = .returned (.int .i64 0) ∧ (∃ b, QStD B w' g p (bs ++ [b]) (ds ++ [bs.length])) ∧ Fr (fun k => B ≤ k) w w' := by
  have hf0 : Fr No w (w.alloc (.cells #[.int .i64 0, .int .i64 c, .int .i64 n, .string s] 29)) := (Fr.refl _ _).alloc _
  have h1 := h.st.no hf0
  have hn1 : QNetD B (w.alloc (.cells #[.int .i64 0, .int .i64 c, .int .i64 n, .string s] 29)) p.gN bs ds := h.net.off hf0 (Off.no _ _)
  have HD := Lib.hid (dial_quiet B _ p.gN bs ds hn1 (by have := hf0.size; omega) hn hd)
  obtain ⟨vC, hb, _⟩ := h1.srv
  have q1 : (w.alloc (.cells #[.int .i64 0, .int .i64 c, .int .i64 n, .string s] 29)).cell? ⟨g, 0, none⟩ = some (.pointer (some ⟨p.gN, 0, none⟩)) := hb.cell 0
  have H1 := Lib.hid h1
  clear h hn1 hb h1
  go_enter Tryz.func12, Tryz.ntmps12
  go_wp2_with (go_at_call 26; refine HD.out.mono (Hid.out ?_))
  refine Lib.hid ?_
  rintro e w1 ⟨b, rfl, hnn, hf1⟩
  go_wp2_with fail
  go_ret
  obtain ⟨hbase, ⟨vC', hb', hov'⟩, hcs, hnet, hrest⟩ := H1.out
  exact ⟨rfl, ⟨b, ⟨hbase, ⟨vC', hb'.off hf1 (Off.ty (by decide)), own_off hov' hf1 (Off.ty (by decide))⟩, by simp, hnn.quiet, hrest.off hf1 (Off.ty (by decide))⟩, hnn⟩, (hf0.mono (fun _ _ h => absurd h id)).trans (TyS.base hf1) (fun _ _ h => h)⟩

set_option maxRecDepth 100000 in
theorem do_tick_quiet (B : Nat) (w : World) (g : Nat) (p : SP) (sb : List (Nat × Nat)) (bs ds : List Nat) (now c n : Int) (s : ByteArray) (h : QSt B w g p sb bs ds now) (hB : B ≤ w.heap.size) (hn : sb.length ≤ 1000) (hnow : 0 ≤ now) (hnow2 : now ≤ 1000000) :
    Calls Tryz.prog 12 #[.pointer (some ⟨g, 0, none⟩), .agg #[.int .i64 4, .int .i64 c, .int .i64 n, .string s]] w fun e w' => e = .returned (.int .i64 0) ∧ QSt B w' g p (left p (now + 1) sb sb) bs ds (now + 1) ∧ Fr (fun k => B ≤ k) w w' := by
  have hf0 : Fr No w (w.alloc (.cells #[.int .i64 4, .int .i64 c, .int .i64 n, .string s] 29)) := (Fr.refl _ _).alloc _
  have HT := Lib.hid (tick_quiet B _ g p sb bs ds now (h.no hf0) (by have := hf0.size; omega) hn hnow hnow2)
  clear h
  go_enter Tryz.func12, Tryz.ntmps12
  go_wp2_with (go_at_call 31; refine HT.out.mono (Hid.out ?_))
  refine Lib.hid ?_
  rintro e w1 ⟨rfl, hq, hf1⟩
  go_wp2_with fail
  go_ret
  exact ⟨rfl, hq, (hf0.mono (fun _ _ h => absurd h id)).trans hf1 (fun _ _ h => h)⟩

set_option maxRecDepth 100000 in
theorem do_step_none (B : Nat) (w : World) (g : Nat) (p : SP) (sb : List (Nat × Nat)) (bs ds : List Nat) (now c n : Int) (s : ByteArray) (h : QSt B w g p sb bs ds now) (hn : sb.length ≤ 1000) (hd : ds.length ≤ 1000) (hno : ds = [] ∨ p.conns ≤ (sb.length : Int)) :
    Calls Tryz.prog 12 #[.pointer (some ⟨g, 0, none⟩), .agg #[.int .i64 5, .int .i64 c, .int .i64 n, .string s]] w fun e w' => e = .returned (.int .i64 7) ∧ Fr No w w' := by
  have hf0 : Fr No w (w.alloc (.cells #[.int .i64 5, .int .i64 c, .int .i64 n, .string s] 29)) := (Fr.refl _ _).alloc _
  have HT := Lib.hid (able_none B _ g p sb bs ds now (h.no hf0) hn hd hno)
  clear h
  go_enter Tryz.func12, Tryz.ntmps12
  go_wp2_with (go_at_call 32; refine HT.out.mono (Hid.out ?_))
  refine Lib.hid ?_
  rintro e w1 ⟨rfl, hf1⟩
  go_wp2_with fail
  go_ret
  exact ⟨rfl, hf0.trans hf1 (fun _ _ h => h)⟩

set_option maxRecDepth 100000 in
theorem do_step_accept (B : Nat) (w : World) (g : Nat) (p : SP) (sb : List (Nat × Nat)) (bs : List Nat) (d : Nat) (ds : List Nat) (c : Int) (s : ByteArray) (h : QSt B w g p sb bs (d :: ds) 0) (hB : B ≤ w.heap.size) (hn : sb.length ≤ 999) (hd : ds.length ≤ 999) (hfree : (sb.length : Int) < p.conns) :
    Calls Tryz.prog 12 #[.pointer (some ⟨g, 0, none⟩), .agg #[.int .i64 5, .int .i64 c, .int .i64 0, .string s]] w fun e w' => e = .returned (.int .i64 0) ∧ (∃ b, QSt B w' g p (sb ++ [(b, d)]) bs ds 0) ∧ Fr (fun k => B ≤ k) w w' := by
  have hf0 : Fr No w (w.alloc (.cells #[.int .i64 5, .int .i64 c, .int .i64 0, .string s] 29)) := (Fr.refl _ _).alloc _
  have hba := Blk.new w 29 #[.int .i64 5, .int .i64 c, .int .i64 0, .string s]
  have h1 := h.no hf0
  have HT := Lib.hid (able_some B _ g p sb bs (d :: ds) 0 h1 (by omega) (by simp only [List.length_cons]; omega) (by simp only [List.length_cons]; omega) hfree)
  have H1 := Lib.hid h1
  clear h h1
  go_enter Tryz.func12, Tryz.ntmps12
  go_wp2_with (go_at_call 32; refine HT.out.mono (Hid.out ?_))
  refine Lib.hid ?_
  rintro e w1 ⟨⟨A, cA, rfl, hrd⟩, hf1⟩
  obtain ⟨gF, off, rfl, _, hcell⟩ := hrd.form (by simp)
  have q0 : w1.cell? ⟨gF, off, none⟩ = some (acceptFn g) := by simpa using hcell 0 _ rfl
  have q2 : w1.cell? ⟨w.heap.size, 2, none⟩ = some (.int .i64 0) := (hba.fr hf1 id).cell 2
  unfold acceptFn at q0
  have hs1 := (hf0.trans hf1 (fun _ _ h => h)).size
  have HA := Lib.hid (saccept_quiet B w1 g p sb bs d ds (H1.out.no hf1) (by omega) (by omega))
  clear hcell hrd
  go_wp2_with (go_at_call 50; refine HA.out.mono (Hid.out ?_))
  refine Lib.hid ?_
  rintro e w2 ⟨rfl, b, hq2, hf2⟩
  have hs2 := hf2.size
  have HS := Lib.hid (settle_quiet B w2 g p _ bs ds 0 hq2 (by omega) (by simp; omega))
  have hbg := hq2.base
  clear hq2
  go_wp2_with (go_at_call 33; refine HS.out.mono (Hid.out ?_))
  refine Lib.hid ?_
  rintro e w3 ⟨rfl, hq3, hf3⟩
  go_wp2_with fail
  go_ret
  exact ⟨rfl, ⟨b, hq3⟩, (((hf0.trans hf1 (fun _ _ h => h)).mono (fun _ _ h => absurd h id)).trans hf2 (fun _ _ h => h)).trans (hf3.mono (fun _ _ h => by rw [h]; exact hbg)) (fun _ _ h => h)⟩
end Go.Proofs.YthcbjeeajoliiaaGreatDoor
