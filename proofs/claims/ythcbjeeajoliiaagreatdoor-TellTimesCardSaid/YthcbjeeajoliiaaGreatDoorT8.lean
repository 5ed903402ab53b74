/- handle.New; server.New. -/
import Derived.Test.YthcbjeeajoliiaaGreatDoorT7
import Derived.Test.YthcbjeeajoliiaaGreatDoorR4
import Derived.Test.YthcbjeeajoliiaaGreatDoorR5
set_option linter.unusedVariables false
set_option linter.unusedSimpArgs false
namespace Go.Proofs.YthcbjeeajoliiaaGreatDoor
open Go.RowKit
open Cr (Str Rou)

/-- What handle.New leaves: an empty store (its maps unsaid), a table of version 1, the token; nobody asked it to stop. -/
def WorldNew (B : Nat) (W : World) (gw : Nat) (tok : Str) : Prop := ∃ gs gh q A n k, B ≤ gw ∧ B ≤ gs ∧ B ≤ gh ∧ Blk W gw 93 #[.pointer (some ⟨gs, 0, none⟩), .pointer (some ⟨gh, 0, none⟩), .string ⟨tok.toArray⟩, .bool false] ∧ Blk W gh 133 #[.pointer q, .int .i64 1, .slice A n k]
theorem WorldNew.fr {B : Nat} {W W' : World} {gw : Nat} {tok : Str} (h : WorldNew B W gw tok) (hf : Fr No W W') : WorldNew B W' gw tok := by
  obtain ⟨gs, gh, q, A, n, k, h1, h2, h3, h4, h5⟩ := h
  exact ⟨gs, gh, q, A, n, k, h1, h2, h3, h4.fr hf id, h5.fr hf id⟩
theorem WorldNew.base {B B' : Nat} {W : World} {gw : Nat} {tok : Str} (h : WorldNew B W gw tok) (hB : B' ≤ B) : WorldNew B' W gw tok := by
  obtain ⟨gs, gh, q, A, n, k, h1, h2, h3, h4, h5⟩ := h
  exact ⟨gs, gh, q, A, n, k, by omega, by omega, by omega, h4, h5⟩

set_option maxRecDepth 100000 in
theorem handleNew_any (Pl : Nat → Prop) (w : World) (hh : Hands w) (tok : Str) (A : Option Addr) (c : Nat) (l : List Rou) (hr : Rd Pl w A (rousV l)) (hl : l.length ≤ 1000) (hs : ∀ r ∈ l, rouSmall r) :
    Calls Tryz.prog 23 #[.string ⟨tok.toArray⟩, .slice A l.length c] w fun e w' => ∃ gw, e = .returned (.pointer (some ⟨gw, 0, none⟩)) ∧ WorldNew w.heap.size w' gw tok ∧ Fr No w w' := by
  have HS := Lib.hid (fun W => storeNew_any W)
  have HH := Lib.hid (fun W (hf : Fr No w W) => holderNew_any Pl W (hh.fr hf id) A c l (hr.fr hf (fun _ _ h => h)) hl hs)
  clear hh hr hs
  go_enter Tryz.func23, Tryz.ntmps23
  go_wp2_with (go_at_call 42; refine (HS.out _).mono (Hid.out ?_))
  refine Lib.hid ?_
  rintro e w1 ⟨gs, m0, m1, m2, m3, rfl, hgs, hbs, hf1⟩
  go_wp2_with (go_at_call 43; refine (HH.out _ hf1).mono (Hid.out ?_))
  refine Lib.hid ?_
  rintro e w2 ⟨gh, gT, root, v, rfl, hgh, hgT, hbh, hbT, hn, hown, hf2⟩
  go_wp2_with fail
  go_ret
  have hf := hf1.trans hf2 (fun _ _ h => h)
  have hs1 := hf1.size
  have hs2 := hf.size
  obtain ⟨Ar, cr, rfl, _, _⟩ := own_form hown
  exact ⟨w2.heap.size, rfl, ⟨gs, gh, _, Ar, _, cr, by omega, by omega, by omega, Blk.new _ _ _, hbh.alloc _⟩, hf.alloc _⟩

theorem firstRoutes_len : firstRoutes.length = 8 := by decide +kernel
theorem firstRoutes_small : ∀ r ∈ firstRoutes, rouSmall r := by
  have h : firstRoutes.all (fun r => decide (r.method.length ≤ 1000000) && decide (r.pattern.length ≤ 1000000) && decide (r.handler.length ≤ 1000000)) = true := by decide +kernel
  intro r hr
  have := List.all_eq_true.1 h r hr
  simp only [Bool.and_eq_true, decide_eq_true_eq] at this
  exact ⟨this.1.1, this.1.2, this.2⟩
theorem bringI_le (n m : Int) (hm : 1 ≤ m) : 1 ≤ bringI n m ∧ bringI n m ≤ m := by
  unfold bringI
  omega

theorem infoWorker : (Tryz.prog.info? 120).map (fun i => (i.zero, i.size, i.bytes)) = some (some (.agg #[.int .i64 0, .int .i64 0, .int .i64 0, .string ⟨#[]⟩, .string ⟨#[]⟩, .slice none 0 0, .string ⟨#[]⟩, .bool false, .string ⟨#[]⟩, .string ⟨#[]⟩, .slice none 0 0, .string ⟨#[]⟩, .bool false, .int .i64 0, .int .i64 0, .int .i64 0, .string ⟨#[]⟩, .slice none 0 0, .slice none 0 0, .bool false, .string ⟨#[]⟩, .slice none 0 0, .int .i64 0, .slice none 0 0, .string ⟨#[]⟩, .bool false]), 26, 376) := by kernel_rfl

theorem blk_new_at {w : World} {n : Nat} (h : w.heap.size = n) (t : TypeId) (cs : Array Value) : Blk (w.alloc (.cells cs t)) n t cs := by
  subst h
  exact Blk.new _ _ _
theorem drew_size (W : World) : W.drew.heap.size = W.heap.size := rfl
theorem alloc_after {w0 cur : World} (h : Fr No w0 cur) (t : TypeId) (cs : Array Value) : Fr No w0 (cur.alloc (.cells cs t)) ∧ Blk (cur.alloc (.cells cs t)) cur.heap.size t cs := ⟨h.alloc _, Blk.new _ _ _⟩

/-- The seven cells of a configuration. -/
def cfgV (c : Cr.Cfg) : Array Value := #[.int .i64 c.conns, .int .i64 c.jobs, .int .i64 c.workers, .int .i64 c.window, .int .i64 c.idle, .int .i64 c.drain, .string ⟨c.token.toArray⟩]

/-- A worker that does nothing. -/
def workerV : Array Value := #[.int .i64 0, .int .i64 0, .int .i64 0, .string ⟨#[]⟩, .string ⟨#[]⟩, .slice none 0 0, .string ⟨#[]⟩, .bool false, .string ⟨#[]⟩, .string ⟨#[]⟩, .slice none 0 0, .string ⟨#[]⟩, .bool false, .int .i64 0, .int .i64 0, .int .i64 0, .string ⟨#[]⟩, .slice none 0 0, .slice none 0 0, .bool false, .string ⟨#[]⟩, .slice none 0 0, .int .i64 0, .slice none 0 0, .string ⟨#[]⟩, .bool false]
def NetNew (B : Nat) (W : World) (gN : Nat) : Prop := B ≤ gN ∧ Blk W gN 56 #[.slice none 0 0, .slice none 0 0]
def QueueNew (B : Nat) (W : World) (gq : Nat) (x : Int) : Prop := ∃ r n : Nat, B ≤ gq ∧ B ≤ r ∧ (n : Int) = min (max x 1) 16 ∧ Blk W gq 98 #[.slice (some ⟨r, 0, none⟩) n n, .int .i64 0, .int .i64 0] ∧ Blk W r 111 (madeCells #[.int .i64 0, .int .i64 0, .string ⟨#[]⟩, .string ⟨#[]⟩, .slice none 0 0, .string ⟨#[]⟩, .bool false] (n * 7))
def WorkNew (B : Nat) (W : World) (gk n : Nat) : Prop := B ≤ gk ∧ Blk W gk 120 (madeCells workerV (n * 26))
theorem NetNew.fr {B : Nat} {W W' : World} {gN : Nat} (h : NetNew B W gN) (hf : Fr No W W') : NetNew B W' gN := ⟨h.1, h.2.fr hf id⟩
theorem WorkNew.fr {B : Nat} {W W' : World} {gN n : Nat} (h : WorkNew B W gN n) (hf : Fr No W W') : WorkNew B W' gN n := ⟨h.1, h.2.fr hf id⟩
theorem QueueNew.fr {B : Nat} {W W' : World} {gq : Nat} {x : Int} (h : QueueNew B W gq x) (hf : Fr No W W') : QueueNew B W' gq x := by
  obtain ⟨r, n, h1, h2, h3, h4, h5⟩ := h
  exact ⟨r, n, h1, h2, h3, h4.fr hf id, h5.fr hf id⟩

theorem workNew_at {w0 cur : World} (h : Fr No w0 cur) (n : Nat) : WorkNew w0.heap.size (cur.alloc (.cells (madeCells #[.int .i64 0, .int .i64 0, .int .i64 0, .string ⟨#[]⟩, .string ⟨#[]⟩, .slice none 0 0, .string ⟨#[]⟩, .bool false, .string ⟨#[]⟩, .string ⟨#[]⟩, .slice none 0 0, .string ⟨#[]⟩, .bool false, .int .i64 0, .int .i64 0, .int .i64 0, .string ⟨#[]⟩, .slice none 0 0, .slice none 0 0, .bool false, .string ⟨#[]⟩, .slice none 0 0, .int .i64 0, .slice none 0 0, .string ⟨#[]⟩, .bool false] (n * 26)) 120)) cur.heap.size n := ⟨h.size, (alloc_after h _ _).2⟩
theorem netNew_at {w0 cur : World} (h : Fr No w0 cur) : NetNew w0.heap.size (cur.alloc (.cells #[.slice none 0 0, .slice none 0 0] 56)) cur.heap.size := ⟨h.size, (alloc_after h _ _).2⟩
/-- What server.New leaves. -/
def SrvNew (w : World) (c : Cr.Cfg) (e : Ending) (w' : World) : Prop := ∃ g gN gW gq gk, e = .returned (.pointer (some ⟨g, 0, none⟩)) ∧ w.heap.size ≤ g ∧ NetNew w.heap.size w' gN ∧ WorldNew w.heap.size w' gW c.token ∧ QueueNew w.heap.size w' gq c.jobs ∧ WorkNew w.heap.size w' gk (bringI c.workers 4).toNat ∧
  Blk w' g 39 #[.pointer (some ⟨gN, 0, none⟩), .int .i64 (bringI c.conns 8), .int .i64 c.jobs, .int .i64 (bringI c.workers 4), .int .i64 c.window, .int .i64 (bringI c.idle 1073741824), .int .i64 (bringI c.drain 1073741824), .string ⟨c.token.toArray⟩, .pointer (some ⟨gW, 0, none⟩), .pointer (some ⟨gq, 0, none⟩), .slice none 0 0, .slice (some ⟨gk, 0, none⟩) (bringI c.workers 4).toNat (bringI c.workers 4).toNat, .int .i64 0, .int .i64 0, .int .i64 0, .slice none 0 0, .int .i64 0] ∧ Fr No w w'

theorem srvNew_mk {w cur : World} {c : Cr.Cfg} {e : Ending} {g gN gW gq gk B : Nat} {k0 wk k4 k5 : Int} (e0 : bringI c.conns 8 = k0) (e2 : bringI c.workers 4 = wk) (e4 : bringI c.idle 1073741824 = k4) (e5 : bringI c.drain 1073741824 = k5)
    (he : e = .returned (.pointer (some ⟨g, 0, none⟩)))
    (hB : Blk (cur.alloc (.cells #[.pointer (some ⟨gN, 0, none⟩), .int .i64 k0, .int .i64 c.jobs, .int .i64 wk, .int .i64 c.window, .int .i64 k4, .int .i64 k5, .string ⟨c.token.toArray⟩, .pointer (some ⟨gW, 0, none⟩), .pointer (some ⟨gq, 0, none⟩), .slice none 0 0, .slice (some ⟨gk, 0, none⟩) wk.toNat wk.toNat, .int .i64 0, .int .i64 0, .int .i64 0, .slice none 0 0, .int .i64 0] 39)) g 39 #[.pointer (some ⟨gN, 0, none⟩), .int .i64 k0, .int .i64 c.jobs, .int .i64 wk, .int .i64 c.window, .int .i64 k4, .int .i64 k5, .string ⟨c.token.toArray⟩, .pointer (some ⟨gW, 0, none⟩), .pointer (some ⟨gq, 0, none⟩), .slice none 0 0, .slice (some ⟨gk, 0, none⟩) wk.toNat wk.toNat, .int .i64 0, .int .i64 0, .int .i64 0, .slice none 0 0, .int .i64 0])
    (h1 : w.heap.size ≤ g) (hb : w.heap.size ≤ B) (hN : NetNew B cur gN) (hW : WorldNew B cur gW c.token) (hQ : QueueNew B cur gq c.jobs) (hK : WorkNew B cur gk wk.toNat) (hf : Fr No w cur) : SrvNew w c e (cur.alloc (.cells #[.pointer (some ⟨gN, 0, none⟩), .int .i64 k0, .int .i64 c.jobs, .int .i64 wk, .int .i64 c.window, .int .i64 k4, .int .i64 k5, .string ⟨c.token.toArray⟩, .pointer (some ⟨gW, 0, none⟩), .pointer (some ⟨gq, 0, none⟩), .slice none 0 0, .slice (some ⟨gk, 0, none⟩) wk.toNat wk.toNat, .int .i64 0, .int .i64 0, .int .i64 0, .slice none 0 0, .int .i64 0] 39)) := by
  subst e0 e2 e4 e5
  have hA := (Fr.refl No cur).alloc (.cells #[.pointer (some ⟨gN, 0, none⟩), .int .i64 (bringI c.conns 8), .int .i64 c.jobs, .int .i64 (bringI c.workers 4), .int .i64 c.window, .int .i64 (bringI c.idle 1073741824), .int .i64 (bringI c.drain 1073741824), .string ⟨c.token.toArray⟩, .pointer (some ⟨gW, 0, none⟩), .pointer (some ⟨gq, 0, none⟩), .slice none 0 0, .slice (some ⟨gk, 0, none⟩) (bringI c.workers 4).toNat (bringI c.workers 4).toNat, .int .i64 0, .int .i64 0, .int .i64 0, .slice none 0 0, .int .i64 0] 39)
  exact ⟨g, gN, gW, gq, gk, he, h1, ⟨Nat.le_trans hb hN.1, (hN.fr hA).2⟩, (hW.fr hA).base hb, by
    obtain ⟨r, n, h1, h2, h3⟩ := hQ.fr hA
    exact ⟨r, n, Nat.le_trans hb h1, Nat.le_trans hb h2, h3⟩, ⟨Nat.le_trans hb hK.1, (hK.fr hA).2⟩, hB, hf.alloc _⟩

set_option maxRecDepth 100000 in
set_option maxHeartbeats 8000000 in
theorem serverNew_all (w : World) (hh : Hands w) (c : Cr.Cfg) :
    Calls Tryz.prog 7 #[.agg #[.int .i64 c.conns, .int .i64 c.jobs, .int .i64 c.workers, .int .i64 c.window, .int .i64 c.idle, .int .i64 c.drain, .string ⟨c.token.toArray⟩]] w fun e w' => SrvNew w c e w' := by
  obtain ⟨bc, hbc⟩ : ∃ bc, w.heap.size = bc := ⟨_, rfl⟩
  have hb0 := Blk.new w 23 #[.int .i64 c.conns, .int .i64 c.jobs, .int .i64 c.workers, .int .i64 c.window, .int .i64 c.idle, .int .i64 c.drain, .string ⟨c.token.toArray⟩]
  have hf0 : Fr No w (w.alloc (.cells #[.int .i64 c.conns, .int .i64 c.jobs, .int .i64 c.workers, .int .i64 c.window, .int .i64 c.idle, .int .i64 c.drain, .string ⟨c.token.toArray⟩] 23)) := (Fr.refl _ _).alloc _
  have hB := fun W n m => bring_any W n m
  have HB := Lib.hid hB
  have Hbc := Lib.hid hbc
  clear hB hbc
  go_enter Tryz.func7, Tryz.ntmps7
  go_wp2_with fail
  rw [Hbc.out] at hb0 ⊢
  obtain ⟨W0, hW0⟩ : ∃ W0, w.alloc (.cells #[.int .i64 c.conns, .int .i64 c.jobs, .int .i64 c.workers, .int .i64 c.window, .int .i64 c.idle, .int .i64 c.drain, .string ⟨c.token.toArray⟩] 23) = W0 := ⟨_, rfl⟩
  rw [hW0] at hb0 hf0 ⊢
  clear hW0
  have c0 : W0.drew.cell? ⟨bc, 0, none⟩ = some (.int .i64 c.conns) := hb0.cell 0
  have c2 : W0.drew.cell? ⟨bc, 2, none⟩ = some (.int .i64 c.workers) := hb0.cell 2
  have c4 : W0.drew.cell? ⟨bc, 4, none⟩ = some (.int .i64 c.idle) := hb0.cell 4
  have c5 : W0.drew.cell? ⟨bc, 5, none⟩ = some (.int .i64 c.drain) := hb0.cell 5
  refine wp_region_y (Fr No) [13, 15, 17, 19] (.pure 0 (.read 1 (.pure 3 (.read 4 (.pure 6 (.read 7 (.pure 9 (.read 10 (.eff 2 (.pure 12 (.eff 5 (.eff 8 (.eff 11 (.late 13 (.plate 14 (.late 15 (.plate 16 (.late 17 (.plate 18 (.late 19 .nil)))))))))))))))))))) (by rfl) (PlanRel.refl _) (PlanRel.trans _) (by intro c a d v w h; cases d <;> exact h) (by kernel_rfl) (fun s hs => ?_) (by kernel_rfl)
  simp only [yOf, List.getElem?_toArray, List.getElem?_cons_succ, List.getElem?_cons_zero, Option.some.injEq] at hs
  subst hs
  refine y_pure ?_ (by rfl) (fun w' => ?_) ?_
  rotate_left
  · (go_simp; try with_reducible rfl)
  simp only [Act.put, List.setIfInBounds_toArray, List.set_cons_zero, List.set_cons_succ]
  refine y_reads ?_ (by rfl) (fun w' hR => ?_) ?_
  rotate_left
  · have hk := hR.cell c0 id
    (go_simp; try with_reducible rfl)
  simp only [Act.put, List.setIfInBounds_toArray, List.set_cons_zero, List.set_cons_succ]
  refine y_pure ?_ (by rfl) (fun w' => ?_) ?_
  rotate_left
  · (go_simp; try with_reducible rfl)
  simp only [Act.put, List.setIfInBounds_toArray, List.set_cons_zero, List.set_cons_succ]
  refine y_reads ?_ (by rfl) (fun w' hR => ?_) ?_
  rotate_left
  · have hk := hR.cell c2 id
    (go_simp; try with_reducible rfl)
  simp only [Act.put, List.setIfInBounds_toArray, List.set_cons_zero, List.set_cons_succ]
  refine y_pure ?_ (by rfl) (fun w' => ?_) ?_
  rotate_left
  · (go_simp; try with_reducible rfl)
  simp only [Act.put, List.setIfInBounds_toArray, List.set_cons_zero, List.set_cons_succ]
  refine y_reads ?_ (by rfl) (fun w' hR => ?_) ?_
  rotate_left
  · have hk := hR.cell c4 id
    (go_simp; try with_reducible rfl)
  simp only [Act.put, List.setIfInBounds_toArray, List.set_cons_zero, List.set_cons_succ]
  refine y_pure ?_ (by rfl) (fun w' => ?_) ?_
  rotate_left
  · (go_simp; try with_reducible rfl)
  simp only [Act.put, List.setIfInBounds_toArray, List.set_cons_zero, List.set_cons_succ]
  refine y_reads ?_ (by rfl) (fun w' hR => ?_) ?_
  rotate_left
  · have hk := hR.cell c5 id
    (go_simp; try with_reducible rfl)
  simp only [Act.put, List.setIfInBounds_toArray, List.set_cons_zero, List.set_cons_succ]
  refine y_does (by rfl) (fun K hK => ?_)
  go_simp
  refine (HB.out _ _ _).mono ?_
  rintro e w1 ⟨rfl, hf1⟩
  refine hK _ _ hf1 ?_
  try simp only [Act.put, List.setIfInBounds_toArray, List.set_cons_zero, List.set_cons_succ]
  refine y_pure ?_ (by rfl) (fun w' => ?_) ?_
  rotate_left
  · (go_simp; try with_reducible rfl)
  simp only [Act.put, List.setIfInBounds_toArray, List.set_cons_zero, List.set_cons_succ]
  refine y_does (by rfl) (fun K hK => ?_)
  go_simp
  refine (HB.out _ _ _).mono ?_
  rintro e w2 ⟨rfl, hf2⟩
  refine hK _ _ hf2 ?_
  try simp only [Act.put, List.setIfInBounds_toArray, List.set_cons_zero, List.set_cons_succ]
  refine y_does (by rfl) (fun K hK => ?_)
  go_simp
  refine (HB.out _ _ _).mono ?_
  rintro e w3 ⟨rfl, hf3⟩
  refine hK _ _ hf3 ?_
  try simp only [Act.put, List.setIfInBounds_toArray, List.set_cons_zero, List.set_cons_succ]
  refine y_does (by rfl) (fun K hK => ?_)
  go_simp
  refine (HB.out _ _ _).mono ?_
  rintro e w4 ⟨rfl, hf4⟩
  refine hK _ _ hf4 ?_
  have hfB : Fr No W0 w4 := (((Fr.refl _ _).drew.trans hf1 (fun _ _ h => h)).trans hf2 (fun _ _ h => h)).trans (hf3.trans hf4 (fun _ _ h => h)) (fun _ _ h => h)
  have hb4 := hb0.fr hfB id
  have r0 : w4.cell? ⟨bc, 0, none⟩ = some (.int .i64 c.conns) := hb4.cell 0
  have z0 : w4.frozen? ⟨bc, 0, none⟩ = false := hb4.frozen 0
  have hb5 := hb4.set_ 0 (.int .i64 (bringI c.conns 8))
  try simp only [Act.put, List.setIfInBounds_toArray, List.set_cons_zero, List.set_cons_succ]
  refine y_late (by rfl) (fun K hK => ?_)
  go_simp
  refine hK _ _ ?_
  have hfs5 : Fr (fun i => i = bc) w4 (w4.setCell ⟨bc, 0, none⟩ (.int .i64 (bringI c.conns 8))) := by
    refine Fr.setCell (Fr.refl _ _) ?_ _
    intro _; rfl
  clear r0 z0
  generalize w4.setCell ⟨bc, 0, none⟩ (.int .i64 (bringI c.conns 8)) = w5 at hb5 hfs5 ⊢
  have r0 : w5.cell? ⟨bc, 2, none⟩ = some (.int .i64 c.workers) := hb5.cell 2
  have z0 : w5.frozen? ⟨bc, 2, none⟩ = false := hb5.frozen 2
  have hb6 := hb5.set_ 2 (.int .i64 (bringI c.workers 4))
  try simp only [Act.put, List.setIfInBounds_toArray, List.set_cons_zero, List.set_cons_succ]
  refine y_pure ?_ (by rfl) (fun w' => ?_) ?_
  rotate_left
  · (go_simp; try with_reducible rfl)
  simp only [Act.put, List.setIfInBounds_toArray, List.set_cons_zero, List.set_cons_succ]
  refine y_late (by rfl) (fun K hK => ?_)
  go_simp
  refine hK _ _ ?_
  have hfs6 : Fr (fun i => i = bc) w5 (w5.setCell ⟨bc, 2, none⟩ (.int .i64 (bringI c.workers 4))) := by
    refine Fr.setCell (Fr.refl _ _) ?_ _
    intro _; rfl
  clear r0 z0
  generalize w5.setCell ⟨bc, 2, none⟩ (.int .i64 (bringI c.workers 4)) = w6 at hb6 hfs6 ⊢
  have r0 : w6.cell? ⟨bc, 4, none⟩ = some (.int .i64 c.idle) := hb6.cell 4
  have z0 : w6.frozen? ⟨bc, 4, none⟩ = false := hb6.frozen 4
  have hb7 := hb6.set_ 4 (.int .i64 (bringI c.idle 1073741824))
  try simp only [Act.put, List.setIfInBounds_toArray, List.set_cons_zero, List.set_cons_succ]
  refine y_pure ?_ (by rfl) (fun w' => ?_) ?_
  rotate_left
  · (go_simp; try with_reducible rfl)
  simp only [Act.put, List.setIfInBounds_toArray, List.set_cons_zero, List.set_cons_succ]
  refine y_late (by rfl) (fun K hK => ?_)
  go_simp
  refine hK _ _ ?_
  have hfs7 : Fr (fun i => i = bc) w6 (w6.setCell ⟨bc, 4, none⟩ (.int .i64 (bringI c.idle 1073741824))) := by
    refine Fr.setCell (Fr.refl _ _) ?_ _
    intro _; rfl
  clear r0 z0
  generalize w6.setCell ⟨bc, 4, none⟩ (.int .i64 (bringI c.idle 1073741824)) = w7 at hb7 hfs7 ⊢
  have r0 : w7.cell? ⟨bc, 5, none⟩ = some (.int .i64 c.drain) := hb7.cell 5
  have z0 : w7.frozen? ⟨bc, 5, none⟩ = false := hb7.frozen 5
  have hb8 := hb7.set_ 5 (.int .i64 (bringI c.drain 1073741824))
  try simp only [Act.put, List.setIfInBounds_toArray, List.set_cons_zero, List.set_cons_succ]
  refine y_pure ?_ (by rfl) (fun w' => ?_) ?_
  rotate_left
  · (go_simp; try with_reducible rfl)
  simp only [Act.put, List.setIfInBounds_toArray, List.set_cons_zero, List.set_cons_succ]
  refine y_late (by rfl) (fun K hK => ?_)
  go_simp
  refine hK _ _ ?_
  have hfs8 : Fr (fun i => i = bc) w7 (w7.setCell ⟨bc, 5, none⟩ (.int .i64 (bringI c.drain 1073741824))) := by
    refine Fr.setCell (Fr.refl _ _) ?_ _
    intro _; rfl
  clear r0 z0
  generalize w7.setCell ⟨bc, 5, none⟩ (.int .i64 (bringI c.drain 1073741824)) = w8 at hb8 hfs8 ⊢
  try simp only [Act.put, List.setIfInBounds_toArray, List.set_cons_zero, List.set_cons_succ]
  refine y_end ?_
  have hf08 : Fr No w w8 := (hf0.trans hfB (fun _ _ h => h)).trans ((hfs5.trans hfs6 (fun _ _ h => h)).trans (hfs7.trans hfs8 (fun _ _ h => h)) (fun _ _ h => h)) (fun i hi h => by have := Hbc.out; omega)
  go_wp2_with fail
  have hHw := hh.fr hf08 id
  have HHw := Lib.hid (fun W (hW : Fr No w8 W) => hHw.fr hW id)
  have hb9 : Blk w8 bc 23 #[.int .i64 (bringI c.conns 8), .int .i64 c.jobs, .int .i64 (bringI c.workers 4), .int .i64 c.window, .int .i64 (bringI c.idle 1073741824), .int .i64 (bringI c.drain 1073741824), .string ⟨c.token.toArray⟩] := by simpa using hb8
  obtain ⟨hk1, hk4⟩ := bringI_le c.workers 4 (by omega)
  have hmk := fun W => run_make_any (P := Tryz.prog) 36 120 _ 26 376 Tryz.underlying36 infoWorker (bringI c.workers 4) (by omega) (by omega) (by omega) W
  have hcur : Fr No w8 w8.drew := (Fr.refl _ _).drew
  have hgc := hf08.size
  clear hb0 c0 c2 c4 c5 hb4 hb5 hb6 hb7 hb8 hfs5 hfs6 hfs7 hfs8 hf1 hf2 hf3 hf4 hfB
  generalize hEk0 : bringI c.conns 8 = k0 at hb9 ⊢
  have HEk0 := Lib.hid hEk0
  clear hEk0
  generalize hEwk : bringI c.workers 4 = wk at hb9 hk1 hk4 hmk ⊢
  have HEwk := Lib.hid hEwk
  clear hEwk
  generalize hEk4 : bringI c.idle 1073741824 = k4 at hb9 ⊢
  have HEk4 := Lib.hid hEk4
  clear hEk4
  generalize hEk5 : bringI c.drain 1073741824 = k5 at hb9 ⊢
  have HEk5 := Lib.hid hEk5
  clear hEk5
  have c0 : w8.drew.cell? ⟨bc, 0, none⟩ = some (.int .i64 k0) := hb9.cell 0
  have c1 : w8.drew.cell? ⟨bc, 1, none⟩ = some (.int .i64 c.jobs) := hb9.cell 1
  have c2 : w8.drew.cell? ⟨bc, 2, none⟩ = some (.int .i64 wk) := hb9.cell 2
  have c3 : w8.drew.cell? ⟨bc, 3, none⟩ = some (.int .i64 c.window) := hb9.cell 3
  have c4 : w8.drew.cell? ⟨bc, 4, none⟩ = some (.int .i64 k4) := hb9.cell 4
  have c5 : w8.drew.cell? ⟨bc, 5, none⟩ = some (.int .i64 k5) := hb9.cell 5
  have c6 : w8.drew.cell? ⟨bc, 6, none⟩ = some (.string ⟨c.token.toArray⟩) := hb9.cell 6
  have hlen8 : firstRoutes.length ≤ 1000 := by rw [firstRoutes_len]; omega
  have hsm8 := firstRoutes_small
  generalize hFR : firstRoutes = FR at hlen8 hsm8
  have HFi := Lib.hid (fun W hW => hFR ▸ first_any W hW)
  clear hFR
  refine wp_region_u (Fr No) (.one 0 false (.one 2 false (.one 3 false (.one 4 false (.one 7 false (.one 8 false (.one 10 false (.one 11 false (.three 1 (.two 5 (.two 6 (.two 9 (.one 12 true (.one 13 false (.one 14 true (.one 15 false .nil)))) 12 (.one 9 true (.one 13 false (.one 14 true (.one 15 false .nil))))) 12 (.one 6 true (.one 9 true (.one 13 false (.one 14 true (.one 15 false .nil)))))) 12 (.one 5 true (.one 6 true (.one 9 true (.one 13 false (.one 14 true (.one 15 false .nil))))))) 5 (.three 1 (.two 6 (.two 9 (.one 12 true (.one 13 false (.one 14 true (.one 15 false .nil)))) 12 (.one 9 true (.one 13 false (.one 14 true (.one 15 false .nil))))) 12 (.one 6 true (.one 9 true (.one 13 false (.one 14 true (.one 15 false .nil)))))) 6 (.three 1 (.two 9 (.one 12 true (.one 13 false (.one 14 true (.one 15 false .nil)))) 12 (.one 9 true (.one 13 false (.one 14 true (.one 15 false .nil))))) 9 (.two 1 (.one 12 true (.one 13 false (.one 14 true (.one 15 false .nil)))) 12 (.one 1 true (.one 13 false (.one 14 true (.one 15 false .nil))))) 12 (.two 1 (.one 9 true (.one 13 false (.one 14 true (.one 15 false .nil)))) 9 (.one 1 true (.one 13 false (.one 14 true (.one 15 false .nil)))))) 12 (.two 1 (.one 6 true (.one 9 true (.one 13 false (.one 14 true (.one 15 false .nil))))) 6 (.two 1 (.one 9 true (.one 13 false (.one 14 true (.one 15 false .nil)))) 9 (.one 1 true (.one 13 false (.one 14 true (.one 15 false .nil))))))) 12 (.two 1 (.one 5 true (.one 6 true (.one 9 true (.one 13 false (.one 14 true (.one 15 false .nil)))))) 5 (.two 1 (.one 6 true (.one 9 true (.one 13 false (.one 14 true (.one 15 false .nil))))) 6 (.two 1 (.one 9 true (.one 13 false (.one 14 true (.one 15 false .nil)))) 9 (.one 1 true (.one 13 false (.one 14 true (.one 15 false .nil)))))))))))))))) (by rfl) (PlanRel.refl _) (PlanRel.trans _) (by intro c a d v w h; cases d <;> exact h) (by kernel_rfl) (fun s hs => ?_) (by kernel_rfl)
  simp only [uOf, List.getElem?_toArray, List.getElem?_cons_succ, List.getElem?_cons_zero, Option.some.injEq] at hs
  subst hs
  refine u_reads ?_ (by rfl) (fun w' hR => ?_) ?_
  rotate_left
  · (go_simp; try with_reducible rfl)
  simp only [Act.put, List.setIfInBounds_toArray, List.set_cons_zero, List.set_cons_succ]
  refine u_reads ?_ (by rfl) (fun w' hR => ?_) ?_
  rotate_left
  · have k0 := hR.cell c0 id
    have k1 := hR.cell c1 id
    have k2 := hR.cell c2 id
    have k3 := hR.cell c3 id
    have k4 := hR.cell c4 id
    have k5 := hR.cell c5 id
    have k6 := hR.cell c6 id
    (go_simp; try with_reducible rfl)
  simp only [Act.put, List.setIfInBounds_toArray, List.set_cons_zero, List.set_cons_succ]
  refine u_reads ?_ (by rfl) (fun w' hR => ?_) ?_
  rotate_left
  · (go_simp; try with_reducible rfl)
  simp only [Act.put, List.setIfInBounds_toArray, List.set_cons_zero, List.set_cons_succ]
  refine u_reads ?_ (by rfl) (fun w' hR => ?_) ?_
  rotate_left
  · have k6 := hR.cell c6 id
    (go_simp; try with_reducible rfl)
  simp only [Act.put, List.setIfInBounds_toArray, List.set_cons_zero, List.set_cons_succ]
  refine u_reads ?_ (by rfl) (fun w' hR => ?_) ?_
  rotate_left
  · (go_simp; try with_reducible rfl)
  simp only [Act.put, List.setIfInBounds_toArray, List.set_cons_zero, List.set_cons_succ]
  refine u_reads ?_ (by rfl) (fun w' hR => ?_) ?_
  rotate_left
  · have k1 := hR.cell c1 id
    (go_simp; try with_reducible rfl)
  simp only [Act.put, List.setIfInBounds_toArray, List.set_cons_zero, List.set_cons_succ]
  refine u_reads ?_ (by rfl) (fun w' hR => ?_) ?_
  rotate_left
  · (go_simp; try with_reducible rfl)
  simp only [Act.put, List.setIfInBounds_toArray, List.set_cons_zero, List.set_cons_succ]
  refine u_reads ?_ (by rfl) (fun w' hR => ?_) ?_
  rotate_left
  · have k2 := hR.cell c2 id
    (go_simp; try with_reducible rfl)
  simp only [Act.put, List.setIfInBounds_toArray, List.set_cons_zero, List.set_cons_succ]
  refine u_three (by rfl) (by rfl) (by rfl) (fun K hK => ?_) (fun K hK => ?_) (fun K hK => ?_)
  · go_simp
    refine hK _ _ ?hq ?_
    case hq => exact (Fr.refl _ _).alloc _
    have hN := netNew_at hcur
    replace hcur := hcur.alloc (.cells #[.slice none 0 0, .slice none 0 0] 56)
    try replace hW := hW.fr ((Fr.refl No _).alloc (.cells #[.slice none 0 0, .slice none 0 0] 56))
    try replace hQ := hQ.fr ((Fr.refl No _).alloc (.cells #[.slice none 0 0, .slice none 0 0] 56))
    try replace hWk := hWk.fr ((Fr.refl No _).alloc (.cells #[.slice none 0 0, .slice none 0 0] 56))
    try replace hc9' := hc9'.alloc (.cells #[.slice none 0 0, .slice none 0 0] 56)
    try simp only [Act.put, List.setIfInBounds_toArray, List.set_cons_zero, List.set_cons_succ]
    refine u_two (by rfl) (by rfl) (fun K hK => ?_) (fun K hK => ?_)
    · go_simp
      refine (HFi.out _ (HHw.out _ hcur)).mono (Hid.out ?_)
      refine Lib.hid ?_
      rintro e w9 ⟨v9, rfl, hown9, hf9⟩
      obtain ⟨A9, c9, rfl, hc9, hr9⟩ := own_form hown9
      refine hK _ _ hf9 ?_
      replace hcur := hcur.trans hf9 (fun _ _ h => h)
      have hc9' := Fr.refl No w9
      try replace hN := hN.fr hf9
      try replace hW := hW.fr hf9
      try replace hQ := hQ.fr hf9
      try replace hWk := hWk.fr hf9
      try simp only [Act.put, List.setIfInBounds_toArray, List.set_cons_zero, List.set_cons_succ]
      refine u_two (by rfl) (by rfl) (fun K hK => ?_) (fun K hK => ?_)
      · go_simp
        refine (handleNew_any _ _ (HHw.out _ hcur) c.token A9 c9 FR (hr9.fr hc9' (fun _ _ h => h)) hlen8 hsm8).mono (Hid.out ?_)
        refine Lib.hid ?_
        rintro e w10 ⟨gw, rfl, hgw, hf10⟩
        refine hK _ _ hf10 ?_
        have hW := hgw.base hcur.size
        clear hgw
        replace hcur := hcur.trans hf10 (fun _ _ h => h)
        try replace hN := hN.fr hf10
        try replace hQ := hQ.fr hf10
        try replace hWk := hWk.fr hf10
        try simp only [Act.put, List.setIfInBounds_toArray, List.set_cons_zero, List.set_cons_succ]
        refine u_two (by rfl) (by rfl) (fun K hK => ?_) (fun K hK => ?_)
        · go_simp
          refine (queueNew_any _ c.jobs).mono (Hid.out ?_)
          refine Lib.hid ?_
          rintro e w11 ⟨gq, rq, nq, rfl, hq1, hq2, hq3, hq4, hq5, hf11⟩
          refine hK _ _ hf11 ?_
          have hQ : QueueNew w8.heap.size w11 gq c.jobs := ⟨rq, nq, Nat.le_trans hcur.size hq1, Nat.le_trans hcur.size hq2, hq3, hq4, hq5⟩
          clear hq1 hq2 hq3 hq4 hq5
          replace hcur := hcur.trans hf11 (fun _ _ h => h)
          try replace hN := hN.fr hf11
          try replace hW := hW.fr hf11
          try replace hWk := hWk.fr hf11
          try simp only [Act.put, List.setIfInBounds_toArray, List.set_cons_zero, List.set_cons_succ]
          refine u_does (by rfl) (fun K hK => ?_)
          go_simp
          refine hK _ _ ?hq ?_
          case hq => exact (Fr.refl _ _).alloc _
          have hWk := workNew_at hcur wk.toNat
          replace hcur := hcur.alloc (.cells (madeCells #[.int .i64 0, .int .i64 0, .int .i64 0, .string ⟨#[]⟩, .string ⟨#[]⟩, .slice none 0 0, .string ⟨#[]⟩, .bool false, .string ⟨#[]⟩, .string ⟨#[]⟩, .slice none 0 0, .string ⟨#[]⟩, .bool false, .int .i64 0, .int .i64 0, .int .i64 0, .string ⟨#[]⟩, .slice none 0 0, .slice none 0 0, .bool false, .string ⟨#[]⟩, .slice none 0 0, .int .i64 0, .slice none 0 0, .string ⟨#[]⟩, .bool false] (wk.toNat * 26)) 120)
          try replace hN := hN.fr ((Fr.refl No _).alloc (.cells (madeCells #[.int .i64 0, .int .i64 0, .int .i64 0, .string ⟨#[]⟩, .string ⟨#[]⟩, .slice none 0 0, .string ⟨#[]⟩, .bool false, .string ⟨#[]⟩, .string ⟨#[]⟩, .slice none 0 0, .string ⟨#[]⟩, .bool false, .int .i64 0, .int .i64 0, .int .i64 0, .string ⟨#[]⟩, .slice none 0 0, .slice none 0 0, .bool false, .string ⟨#[]⟩, .slice none 0 0, .int .i64 0, .slice none 0 0, .string ⟨#[]⟩, .bool false] (wk.toNat * 26)) 120))
          try replace hW := hW.fr ((Fr.refl No _).alloc (.cells (madeCells #[.int .i64 0, .int .i64 0, .int .i64 0, .string ⟨#[]⟩, .string ⟨#[]⟩, .slice none 0 0, .string ⟨#[]⟩, .bool false, .string ⟨#[]⟩, .string ⟨#[]⟩, .slice none 0 0, .string ⟨#[]⟩, .bool false, .int .i64 0, .int .i64 0, .int .i64 0, .string ⟨#[]⟩, .slice none 0 0, .slice none 0 0, .bool false, .string ⟨#[]⟩, .slice none 0 0, .int .i64 0, .slice none 0 0, .string ⟨#[]⟩, .bool false] (wk.toNat * 26)) 120))
          try replace hQ := hQ.fr ((Fr.refl No _).alloc (.cells (madeCells #[.int .i64 0, .int .i64 0, .int .i64 0, .string ⟨#[]⟩, .string ⟨#[]⟩, .slice none 0 0, .string ⟨#[]⟩, .bool false, .string ⟨#[]⟩, .string ⟨#[]⟩, .slice none 0 0, .string ⟨#[]⟩, .bool false, .int .i64 0, .int .i64 0, .int .i64 0, .string ⟨#[]⟩, .slice none 0 0, .slice none 0 0, .bool false, .string ⟨#[]⟩, .slice none 0 0, .int .i64 0, .slice none 0 0, .string ⟨#[]⟩, .bool false] (wk.toNat * 26)) 120))
          try replace hc9' := hc9'.alloc (.cells (madeCells #[.int .i64 0, .int .i64 0, .int .i64 0, .string ⟨#[]⟩, .string ⟨#[]⟩, .slice none 0 0, .string ⟨#[]⟩, .bool false, .string ⟨#[]⟩, .string ⟨#[]⟩, .slice none 0 0, .string ⟨#[]⟩, .bool false, .int .i64 0, .int .i64 0, .int .i64 0, .string ⟨#[]⟩, .slice none 0 0, .slice none 0 0, .bool false, .string ⟨#[]⟩, .slice none 0 0, .int .i64 0, .slice none 0 0, .string ⟨#[]⟩, .bool false] (wk.toNat * 26)) 120)
          try simp only [Act.put, List.setIfInBounds_toArray, List.set_cons_zero, List.set_cons_succ]
          refine u_reads ?_ (by rfl) (fun w' hR => ?_) ?_
          rotate_left
          · (go_simp; try with_reducible rfl)
          simp only [Act.put, List.setIfInBounds_toArray, List.set_cons_zero, List.set_cons_succ]
          refine u_does (by rfl) (fun K hK => ?_)
          go_simp
          have hs := (hf08.trans hcur (fun _ _ h => h)).size
          refine hK _ _ ?hq ?_
          case hq => exact (Fr.refl _ _).alloc _
          try simp only [Act.put, List.setIfInBounds_toArray, List.set_cons_zero, List.set_cons_succ]
          refine u_reads ?_ (by rfl) (fun w' hR => ?_) ?_
          rotate_left
          · (go_simp; try with_reducible rfl)
          simp only [Act.put, List.setIfInBounds_toArray, List.set_cons_zero, List.set_cons_succ]
          refine u_end ?_
          go_wp2_with fail
          go_ret
          try simp only [World.size_alloc, drew_size] at hs
          try simp only [World.size_alloc, drew_size] at hWk
          try simp only [World.size_alloc, drew_size] at hN
          refine srvNew_mk HEk0.out HEwk.out HEk4.out HEk5.out rfl (blk_new_at ?h0 _ _) ?h1 hgc hN hW hQ hWk (hf08.trans hcur (fun _ _ h => h))
          case h0 => simp
          case h1 => omega
        · go_simp
          refine hK _ _ ?hq ?_
          case hq => exact (Fr.refl _ _).alloc _
          have hWk := workNew_at hcur wk.toNat
          replace hcur := hcur.alloc (.cells (madeCells #[.int .i64 0, .int .i64 0, .int .i64 0, .string ⟨#[]⟩, .string ⟨#[]⟩, .slice none 0 0, .string ⟨#[]⟩, .bool false, .string ⟨#[]⟩, .string ⟨#[]⟩, .slice none 0 0, .string ⟨#[]⟩, .bool false, .int .i64 0, .int .i64 0, .int .i64 0, .string ⟨#[]⟩, .slice none 0 0, .slice none 0 0, .bool false, .string ⟨#[]⟩, .slice none 0 0, .int .i64 0, .slice none 0 0, .string ⟨#[]⟩, .bool false] (wk.toNat * 26)) 120)
          try replace hN := hN.fr ((Fr.refl No _).alloc (.cells (madeCells #[.int .i64 0, .int .i64 0, .int .i64 0, .string ⟨#[]⟩, .string ⟨#[]⟩, .slice none 0 0, .string ⟨#[]⟩, .bool false, .string ⟨#[]⟩, .string ⟨#[]⟩, .slice none 0 0, .string ⟨#[]⟩, .bool false, .int .i64 0, .int .i64 0, .int .i64 0, .string ⟨#[]⟩, .slice none 0 0, .slice none 0 0, .bool false, .string ⟨#[]⟩, .slice none 0 0, .int .i64 0, .slice none 0 0, .string ⟨#[]⟩, .bool false] (wk.toNat * 26)) 120))
          try replace hW := hW.fr ((Fr.refl No _).alloc (.cells (madeCells #[.int .i64 0, .int .i64 0, .int .i64 0, .string ⟨#[]⟩, .string ⟨#[]⟩, .slice none 0 0, .string ⟨#[]⟩, .bool false, .string ⟨#[]⟩, .string ⟨#[]⟩, .slice none 0 0, .string ⟨#[]⟩, .bool false, .int .i64 0, .int .i64 0, .int .i64 0, .string ⟨#[]⟩, .slice none 0 0, .slice none 0 0, .bool false, .string ⟨#[]⟩, .slice none 0 0, .int .i64 0, .slice none 0 0, .string ⟨#[]⟩, .bool false] (wk.toNat * 26)) 120))
          try replace hQ := hQ.fr ((Fr.refl No _).alloc (.cells (madeCells #[.int .i64 0, .int .i64 0, .int .i64 0, .string ⟨#[]⟩, .string ⟨#[]⟩, .slice none 0 0, .string ⟨#[]⟩, .bool false, .string ⟨#[]⟩, .string ⟨#[]⟩, .slice none 0 0, .string ⟨#[]⟩, .bool false, .int .i64 0, .int .i64 0, .int .i64 0, .string ⟨#[]⟩, .slice none 0 0, .slice none 0 0, .bool false, .string ⟨#[]⟩, .slice none 0 0, .int .i64 0, .slice none 0 0, .string ⟨#[]⟩, .bool false] (wk.toNat * 26)) 120))
          try replace hc9' := hc9'.alloc (.cells (madeCells #[.int .i64 0, .int .i64 0, .int .i64 0, .string ⟨#[]⟩, .string ⟨#[]⟩, .slice none 0 0, .string ⟨#[]⟩, .bool false, .string ⟨#[]⟩, .string ⟨#[]⟩, .slice none 0 0, .string ⟨#[]⟩, .bool false, .int .i64 0, .int .i64 0, .int .i64 0, .string ⟨#[]⟩, .slice none 0 0, .slice none 0 0, .bool false, .string ⟨#[]⟩, .slice none 0 0, .int .i64 0, .slice none 0 0, .string ⟨#[]⟩, .bool false] (wk.toNat * 26)) 120)
          try simp only [Act.put, List.setIfInBounds_toArray, List.set_cons_zero, List.set_cons_succ]
          refine u_does (by rfl) (fun K hK => ?_)
          go_simp
          refine (queueNew_any _ c.jobs).mono (Hid.out ?_)
          refine Lib.hid ?_
          rintro e w11 ⟨gq, rq, nq, rfl, hq1, hq2, hq3, hq4, hq5, hf11⟩
          refine hK _ _ hf11 ?_
          have hQ : QueueNew w8.heap.size w11 gq c.jobs := ⟨rq, nq, Nat.le_trans hcur.size hq1, Nat.le_trans hcur.size hq2, hq3, hq4, hq5⟩
          clear hq1 hq2 hq3 hq4 hq5
          replace hcur := hcur.trans hf11 (fun _ _ h => h)
          try replace hN := hN.fr hf11
          try replace hW := hW.fr hf11
          try replace hWk := hWk.fr hf11
          try simp only [Act.put, List.setIfInBounds_toArray, List.set_cons_zero, List.set_cons_succ]
          refine u_reads ?_ (by rfl) (fun w' hR => ?_) ?_
          rotate_left
          · (go_simp; try with_reducible rfl)
          simp only [Act.put, List.setIfInBounds_toArray, List.set_cons_zero, List.set_cons_succ]
          refine u_does (by rfl) (fun K hK => ?_)
          go_simp
          have hs := (hf08.trans hcur (fun _ _ h => h)).size
          refine hK _ _ ?hq ?_
          case hq => exact (Fr.refl _ _).alloc _
          try simp only [Act.put, List.setIfInBounds_toArray, List.set_cons_zero, List.set_cons_succ]
          refine u_reads ?_ (by rfl) (fun w' hR => ?_) ?_
          rotate_left
          · (go_simp; try with_reducible rfl)
          simp only [Act.put, List.setIfInBounds_toArray, List.set_cons_zero, List.set_cons_succ]
          refine u_end ?_
          go_wp2_with fail
          go_ret
          try simp only [World.size_alloc, drew_size] at hs
          try simp only [World.size_alloc, drew_size] at hWk
          try simp only [World.size_alloc, drew_size] at hN
          refine srvNew_mk HEk0.out HEwk.out HEk4.out HEk5.out rfl (blk_new_at ?h0 _ _) ?h1 hgc hN hW hQ hWk (hf08.trans hcur (fun _ _ h => h))
          case h0 => simp
          case h1 => omega
      · go_simp
        refine hK _ _ ?hq ?_
        case hq => exact (Fr.refl _ _).alloc _
        have hWk := workNew_at hcur wk.toNat
        replace hcur := hcur.alloc (.cells (madeCells #[.int .i64 0, .int .i64 0, .int .i64 0, .string ⟨#[]⟩, .string ⟨#[]⟩, .slice none 0 0, .string ⟨#[]⟩, .bool false, .string ⟨#[]⟩, .string ⟨#[]⟩, .slice none 0 0, .string ⟨#[]⟩, .bool false, .int .i64 0, .int .i64 0, .int .i64 0, .string ⟨#[]⟩, .slice none 0 0, .slice none 0 0, .bool false, .string ⟨#[]⟩, .slice none 0 0, .int .i64 0, .slice none 0 0, .string ⟨#[]⟩, .bool false] (wk.toNat * 26)) 120)
        try replace hN := hN.fr ((Fr.refl No _).alloc (.cells (madeCells #[.int .i64 0, .int .i64 0, .int .i64 0, .string ⟨#[]⟩, .string ⟨#[]⟩, .slice none 0 0, .string ⟨#[]⟩, .bool false, .string ⟨#[]⟩, .string ⟨#[]⟩, .slice none 0 0, .string ⟨#[]⟩, .bool false, .int .i64 0, .int .i64 0, .int .i64 0, .string ⟨#[]⟩, .slice none 0 0, .slice none 0 0, .bool false, .string ⟨#[]⟩, .slice none 0 0, .int .i64 0, .slice none 0 0, .string ⟨#[]⟩, .bool false] (wk.toNat * 26)) 120))
        try replace hW := hW.fr ((Fr.refl No _).alloc (.cells (madeCells #[.int .i64 0, .int .i64 0, .int .i64 0, .string ⟨#[]⟩, .string ⟨#[]⟩, .slice none 0 0, .string ⟨#[]⟩, .bool false, .string ⟨#[]⟩, .string ⟨#[]⟩, .slice none 0 0, .string ⟨#[]⟩, .bool false, .int .i64 0, .int .i64 0, .int .i64 0, .string ⟨#[]⟩, .slice none 0 0, .slice none 0 0, .bool false, .string ⟨#[]⟩, .slice none 0 0, .int .i64 0, .slice none 0 0, .string ⟨#[]⟩, .bool false] (wk.toNat * 26)) 120))
        try replace hQ := hQ.fr ((Fr.refl No _).alloc (.cells (madeCells #[.int .i64 0, .int .i64 0, .int .i64 0, .string ⟨#[]⟩, .string ⟨#[]⟩, .slice none 0 0, .string ⟨#[]⟩, .bool false, .string ⟨#[]⟩, .string ⟨#[]⟩, .slice none 0 0, .string ⟨#[]⟩, .bool false, .int .i64 0, .int .i64 0, .int .i64 0, .string ⟨#[]⟩, .slice none 0 0, .slice none 0 0, .bool false, .string ⟨#[]⟩, .slice none 0 0, .int .i64 0, .slice none 0 0, .string ⟨#[]⟩, .bool false] (wk.toNat * 26)) 120))
        try replace hc9' := hc9'.alloc (.cells (madeCells #[.int .i64 0, .int .i64 0, .int .i64 0, .string ⟨#[]⟩, .string ⟨#[]⟩, .slice none 0 0, .string ⟨#[]⟩, .bool false, .string ⟨#[]⟩, .string ⟨#[]⟩, .slice none 0 0, .string ⟨#[]⟩, .bool false, .int .i64 0, .int .i64 0, .int .i64 0, .string ⟨#[]⟩, .slice none 0 0, .slice none 0 0, .bool false, .string ⟨#[]⟩, .slice none 0 0, .int .i64 0, .slice none 0 0, .string ⟨#[]⟩, .bool false] (wk.toNat * 26)) 120)
        try simp only [Act.put, List.setIfInBounds_toArray, List.set_cons_zero, List.set_cons_succ]
        refine u_does (by rfl) (fun K hK => ?_)
        go_simp
        refine (handleNew_any _ _ (HHw.out _ hcur) c.token A9 c9 FR (hr9.fr hc9' (fun _ _ h => h)) hlen8 hsm8).mono (Hid.out ?_)
        refine Lib.hid ?_
        rintro e w10 ⟨gw, rfl, hgw, hf10⟩
        refine hK _ _ hf10 ?_
        have hW := hgw.base hcur.size
        clear hgw
        replace hcur := hcur.trans hf10 (fun _ _ h => h)
        try replace hN := hN.fr hf10
        try replace hQ := hQ.fr hf10
        try replace hWk := hWk.fr hf10
        try simp only [Act.put, List.setIfInBounds_toArray, List.set_cons_zero, List.set_cons_succ]
        refine u_does (by rfl) (fun K hK => ?_)
        go_simp
        refine (queueNew_any _ c.jobs).mono (Hid.out ?_)
        refine Lib.hid ?_
        rintro e w11 ⟨gq, rq, nq, rfl, hq1, hq2, hq3, hq4, hq5, hf11⟩
        refine hK _ _ hf11 ?_
        have hQ : QueueNew w8.heap.size w11 gq c.jobs := ⟨rq, nq, Nat.le_trans hcur.size hq1, Nat.le_trans hcur.size hq2, hq3, hq4, hq5⟩
        clear hq1 hq2 hq3 hq4 hq5
        replace hcur := hcur.trans hf11 (fun _ _ h => h)
        try replace hN := hN.fr hf11
        try replace hW := hW.fr hf11
        try replace hWk := hWk.fr hf11
        try simp only [Act.put, List.setIfInBounds_toArray, List.set_cons_zero, List.set_cons_succ]
        refine u_reads ?_ (by rfl) (fun w' hR => ?_) ?_
        rotate_left
        · (go_simp; try with_reducible rfl)
        simp only [Act.put, List.setIfInBounds_toArray, List.set_cons_zero, List.set_cons_succ]
        refine u_does (by rfl) (fun K hK => ?_)
        go_simp
        have hs := (hf08.trans hcur (fun _ _ h => h)).size
        refine hK _ _ ?hq ?_
        case hq => exact (Fr.refl _ _).alloc _
        try simp only [Act.put, List.setIfInBounds_toArray, List.set_cons_zero, List.set_cons_succ]
        refine u_reads ?_ (by rfl) (fun w' hR => ?_) ?_
        rotate_left
        · (go_simp; try with_reducible rfl)
        simp only [Act.put, List.setIfInBounds_toArray, List.set_cons_zero, List.set_cons_succ]
        refine u_end ?_
        go_wp2_with fail
        go_ret
        try simp only [World.size_alloc, drew_size] at hs
        try simp only [World.size_alloc, drew_size] at hWk
        try simp only [World.size_alloc, drew_size] at hN
        refine srvNew_mk HEk0.out HEwk.out HEk4.out HEk5.out rfl (blk_new_at ?h0 _ _) ?h1 hgc hN hW hQ hWk (hf08.trans hcur (fun _ _ h => h))
        case h0 => simp
        case h1 => omega
    · go_simp
      refine hK _ _ ?hq ?_
      case hq => exact (Fr.refl _ _).alloc _
      have hWk := workNew_at hcur wk.toNat
      replace hcur := hcur.alloc (.cells (madeCells #[.int .i64 0, .int .i64 0, .int .i64 0, .string ⟨#[]⟩, .string ⟨#[]⟩, .slice none 0 0, .string ⟨#[]⟩, .bool false, .string ⟨#[]⟩, .string ⟨#[]⟩, .slice none 0 0, .string ⟨#[]⟩, .bool false, .int .i64 0, .int .i64 0, .int .i64 0, .string ⟨#[]⟩, .slice none 0 0, .slice none 0 0, .bool false, .string ⟨#[]⟩, .slice none 0 0, .int .i64 0, .slice none 0 0, .string ⟨#[]⟩, .bool false] (wk.toNat * 26)) 120)
      try replace hN := hN.fr ((Fr.refl No _).alloc (.cells (madeCells #[.int .i64 0, .int .i64 0, .int .i64 0, .string ⟨#[]⟩, .string ⟨#[]⟩, .slice none 0 0, .string ⟨#[]⟩, .bool false, .string ⟨#[]⟩, .string ⟨#[]⟩, .slice none 0 0, .string ⟨#[]⟩, .bool false, .int .i64 0, .int .i64 0, .int .i64 0, .string ⟨#[]⟩, .slice none 0 0, .slice none 0 0, .bool false, .string ⟨#[]⟩, .slice none 0 0, .int .i64 0, .slice none 0 0, .string ⟨#[]⟩, .bool false] (wk.toNat * 26)) 120))
      try replace hW := hW.fr ((Fr.refl No _).alloc (.cells (madeCells #[.int .i64 0, .int .i64 0, .int .i64 0, .string ⟨#[]⟩, .string ⟨#[]⟩, .slice none 0 0, .string ⟨#[]⟩, .bool false, .string ⟨#[]⟩, .string ⟨#[]⟩, .slice none 0 0, .string ⟨#[]⟩, .bool false, .int .i64 0, .int .i64 0, .int .i64 0, .string ⟨#[]⟩, .slice none 0 0, .slice none 0 0, .bool false, .string ⟨#[]⟩, .slice none 0 0, .int .i64 0, .slice none 0 0, .string ⟨#[]⟩, .bool false] (wk.toNat * 26)) 120))
      try replace hQ := hQ.fr ((Fr.refl No _).alloc (.cells (madeCells #[.int .i64 0, .int .i64 0, .int .i64 0, .string ⟨#[]⟩, .string ⟨#[]⟩, .slice none 0 0, .string ⟨#[]⟩, .bool false, .string ⟨#[]⟩, .string ⟨#[]⟩, .slice none 0 0, .string ⟨#[]⟩, .bool false, .int .i64 0, .int .i64 0, .int .i64 0, .string ⟨#[]⟩, .slice none 0 0, .slice none 0 0, .bool false, .string ⟨#[]⟩, .slice none 0 0, .int .i64 0, .slice none 0 0, .string ⟨#[]⟩, .bool false] (wk.toNat * 26)) 120))
      try replace hc9' := hc9'.alloc (.cells (madeCells #[.int .i64 0, .int .i64 0, .int .i64 0, .string ⟨#[]⟩, .string ⟨#[]⟩, .slice none 0 0, .string ⟨#[]⟩, .bool false, .string ⟨#[]⟩, .string ⟨#[]⟩, .slice none 0 0, .string ⟨#[]⟩, .bool false, .int .i64 0, .int .i64 0, .int .i64 0, .string ⟨#[]⟩, .slice none 0 0, .slice none 0 0, .bool false, .string ⟨#[]⟩, .slice none 0 0, .int .i64 0, .slice none 0 0, .string ⟨#[]⟩, .bool false] (wk.toNat * 26)) 120)
      try simp only [Act.put, List.setIfInBounds_toArray, List.set_cons_zero, List.set_cons_succ]
      refine u_does (by rfl) (fun K hK => ?_)
      go_simp
      refine (HFi.out _ (HHw.out _ hcur)).mono (Hid.out ?_)
      refine Lib.hid ?_
      rintro e w9 ⟨v9, rfl, hown9, hf9⟩
      obtain ⟨A9, c9, rfl, hc9, hr9⟩ := own_form hown9
      refine hK _ _ hf9 ?_
      replace hcur := hcur.trans hf9 (fun _ _ h => h)
      have hc9' := Fr.refl No w9
      try replace hN := hN.fr hf9
      try replace hW := hW.fr hf9
      try replace hQ := hQ.fr hf9
      try replace hWk := hWk.fr hf9
      try simp only [Act.put, List.setIfInBounds_toArray, List.set_cons_zero, List.set_cons_succ]
      refine u_does (by rfl) (fun K hK => ?_)
      go_simp
      refine (handleNew_any _ _ (HHw.out _ hcur) c.token A9 c9 FR (hr9.fr hc9' (fun _ _ h => h)) hlen8 hsm8).mono (Hid.out ?_)
      refine Lib.hid ?_
      rintro e w10 ⟨gw, rfl, hgw, hf10⟩
      refine hK _ _ hf10 ?_
      have hW := hgw.base hcur.size
      clear hgw
      replace hcur := hcur.trans hf10 (fun _ _ h => h)
      try replace hN := hN.fr hf10
      try replace hQ := hQ.fr hf10
      try replace hWk := hWk.fr hf10
      try simp only [Act.put, List.setIfInBounds_toArray, List.set_cons_zero, List.set_cons_succ]
      refine u_does (by rfl) (fun K hK => ?_)
      go_simp
      refine (queueNew_any _ c.jobs).mono (Hid.out ?_)
      refine Lib.hid ?_
      rintro e w11 ⟨gq, rq, nq, rfl, hq1, hq2, hq3, hq4, hq5, hf11⟩
      refine hK _ _ hf11 ?_
      have hQ : QueueNew w8.heap.size w11 gq c.jobs := ⟨rq, nq, Nat.le_trans hcur.size hq1, Nat.le_trans hcur.size hq2, hq3, hq4, hq5⟩
      clear hq1 hq2 hq3 hq4 hq5
      replace hcur := hcur.trans hf11 (fun _ _ h => h)
      try replace hN := hN.fr hf11
      try replace hW := hW.fr hf11
      try replace hWk := hWk.fr hf11
      try simp only [Act.put, List.setIfInBounds_toArray, List.set_cons_zero, List.set_cons_succ]
      refine u_reads ?_ (by rfl) (fun w' hR => ?_) ?_
      rotate_left
      · (go_simp; try with_reducible rfl)
      simp only [Act.put, List.setIfInBounds_toArray, List.set_cons_zero, List.set_cons_succ]
      refine u_does (by rfl) (fun K hK => ?_)
      go_simp
      have hs := (hf08.trans hcur (fun _ _ h => h)).size
      refine hK _ _ ?hq ?_
      case hq => exact (Fr.refl _ _).alloc _
      try simp only [Act.put, List.setIfInBounds_toArray, List.set_cons_zero, List.set_cons_succ]
      refine u_reads ?_ (by rfl) (fun w' hR => ?_) ?_
      rotate_left
      · (go_simp; try with_reducible rfl)
      simp only [Act.put, List.setIfInBounds_toArray, List.set_cons_zero, List.set_cons_succ]
      refine u_end ?_
      go_wp2_with fail
      go_ret
      try simp only [World.size_alloc, drew_size] at hs
      try simp only [World.size_alloc, drew_size] at hWk
      try simp only [World.size_alloc, drew_size] at hN
      refine srvNew_mk HEk0.out HEwk.out HEk4.out HEk5.out rfl (blk_new_at ?h0 _ _) ?h1 hgc hN hW hQ hWk (hf08.trans hcur (fun _ _ h => h))
      case h0 => simp
      case h1 => omega
  · go_simp
    refine (HFi.out _ (HHw.out _ hcur)).mono (Hid.out ?_)
    refine Lib.hid ?_
    rintro e w9 ⟨v9, rfl, hown9, hf9⟩
    obtain ⟨A9, c9, rfl, hc9, hr9⟩ := own_form hown9
    refine hK _ _ hf9 ?_
    replace hcur := hcur.trans hf9 (fun _ _ h => h)
    have hc9' := Fr.refl No w9
    try replace hN := hN.fr hf9
    try replace hW := hW.fr hf9
    try replace hQ := hQ.fr hf9
    try replace hWk := hWk.fr hf9
    try simp only [Act.put, List.setIfInBounds_toArray, List.set_cons_zero, List.set_cons_succ]
    refine u_three (by rfl) (by rfl) (by rfl) (fun K hK => ?_) (fun K hK => ?_) (fun K hK => ?_)
    · go_simp
      refine hK _ _ ?hq ?_
      case hq => exact (Fr.refl _ _).alloc _
      have hN := netNew_at hcur
      replace hcur := hcur.alloc (.cells #[.slice none 0 0, .slice none 0 0] 56)
      try replace hW := hW.fr ((Fr.refl No _).alloc (.cells #[.slice none 0 0, .slice none 0 0] 56))
      try replace hQ := hQ.fr ((Fr.refl No _).alloc (.cells #[.slice none 0 0, .slice none 0 0] 56))
      try replace hWk := hWk.fr ((Fr.refl No _).alloc (.cells #[.slice none 0 0, .slice none 0 0] 56))
      try replace hc9' := hc9'.alloc (.cells #[.slice none 0 0, .slice none 0 0] 56)
      try simp only [Act.put, List.setIfInBounds_toArray, List.set_cons_zero, List.set_cons_succ]
      refine u_two (by rfl) (by rfl) (fun K hK => ?_) (fun K hK => ?_)
      · go_simp
        refine (handleNew_any _ _ (HHw.out _ hcur) c.token A9 c9 FR (hr9.fr hc9' (fun _ _ h => h)) hlen8 hsm8).mono (Hid.out ?_)
        refine Lib.hid ?_
        rintro e w10 ⟨gw, rfl, hgw, hf10⟩
        refine hK _ _ hf10 ?_
        have hW := hgw.base hcur.size
        clear hgw
        replace hcur := hcur.trans hf10 (fun _ _ h => h)
        try replace hN := hN.fr hf10
        try replace hQ := hQ.fr hf10
        try replace hWk := hWk.fr hf10
        try simp only [Act.put, List.setIfInBounds_toArray, List.set_cons_zero, List.set_cons_succ]
        refine u_two (by rfl) (by rfl) (fun K hK => ?_) (fun K hK => ?_)
        · go_simp
          refine (queueNew_any _ c.jobs).mono (Hid.out ?_)
          refine Lib.hid ?_
          rintro e w11 ⟨gq, rq, nq, rfl, hq1, hq2, hq3, hq4, hq5, hf11⟩
          refine hK _ _ hf11 ?_
          have hQ : QueueNew w8.heap.size w11 gq c.jobs := ⟨rq, nq, Nat.le_trans hcur.size hq1, Nat.le_trans hcur.size hq2, hq3, hq4, hq5⟩
          clear hq1 hq2 hq3 hq4 hq5
          replace hcur := hcur.trans hf11 (fun _ _ h => h)
          try replace hN := hN.fr hf11
          try replace hW := hW.fr hf11
          try replace hWk := hWk.fr hf11
          try simp only [Act.put, List.setIfInBounds_toArray, List.set_cons_zero, List.set_cons_succ]
          refine u_does (by rfl) (fun K hK => ?_)
          go_simp
          refine hK _ _ ?hq ?_
          case hq => exact (Fr.refl _ _).alloc _
          have hWk := workNew_at hcur wk.toNat
          replace hcur := hcur.alloc (.cells (madeCells #[.int .i64 0, .int .i64 0, .int .i64 0, .string ⟨#[]⟩, .string ⟨#[]⟩, .slice none 0 0, .string ⟨#[]⟩, .bool false, .string ⟨#[]⟩, .string ⟨#[]⟩, .slice none 0 0, .string ⟨#[]⟩, .bool false, .int .i64 0, .int .i64 0, .int .i64 0, .string ⟨#[]⟩, .slice none 0 0, .slice none 0 0, .bool false, .string ⟨#[]⟩, .slice none 0 0, .int .i64 0, .slice none 0 0, .string ⟨#[]⟩, .bool false] (wk.toNat * 26)) 120)
          try replace hN := hN.fr ((Fr.refl No _).alloc (.cells (madeCells #[.int .i64 0, .int .i64 0, .int .i64 0, .string ⟨#[]⟩, .string ⟨#[]⟩, .slice none 0 0, .string ⟨#[]⟩, .bool false, .string ⟨#[]⟩, .string ⟨#[]⟩, .slice none 0 0, .string ⟨#[]⟩, .bool false, .int .i64 0, .int .i64 0, .int .i64 0, .string ⟨#[]⟩, .slice none 0 0, .slice none 0 0, .bool false, .string ⟨#[]⟩, .slice none 0 0, .int .i64 0, .slice none 0 0, .string ⟨#[]⟩, .bool false] (wk.toNat * 26)) 120))
          try replace hW := hW.fr ((Fr.refl No _).alloc (.cells (madeCells #[.int .i64 0, .int .i64 0, .int .i64 0, .string ⟨#[]⟩, .string ⟨#[]⟩, .slice none 0 0, .string ⟨#[]⟩, .bool false, .string ⟨#[]⟩, .string ⟨#[]⟩, .slice none 0 0, .string ⟨#[]⟩, .bool false, .int .i64 0, .int .i64 0, .int .i64 0, .string ⟨#[]⟩, .slice none 0 0, .slice none 0 0, .bool false, .string ⟨#[]⟩, .slice none 0 0, .int .i64 0, .slice none 0 0, .string ⟨#[]⟩, .bool false] (wk.toNat * 26)) 120))
          try replace hQ := hQ.fr ((Fr.refl No _).alloc (.cells (madeCells #[.int .i64 0, .int .i64 0, .int .i64 0, .string ⟨#[]⟩, .string ⟨#[]⟩, .slice none 0 0, .string ⟨#[]⟩, .bool false, .string ⟨#[]⟩, .string ⟨#[]⟩, .slice none 0 0, .string ⟨#[]⟩, .bool false, .int .i64 0, .int .i64 0, .int .i64 0, .string ⟨#[]⟩, .slice none 0 0, .slice none 0 0, .bool false, .string ⟨#[]⟩, .slice none 0 0, .int .i64 0, .slice none 0 0, .string ⟨#[]⟩, .bool false] (wk.toNat * 26)) 120))
          try replace hc9' := hc9'.alloc (.cells (madeCells #[.int .i64 0, .int .i64 0, .int .i64 0, .string ⟨#[]⟩, .string ⟨#[]⟩, .slice none 0 0, .string ⟨#[]⟩, .bool false, .string ⟨#[]⟩, .string ⟨#[]⟩, .slice none 0 0, .string ⟨#[]⟩, .bool false, .int .i64 0, .int .i64 0, .int .i64 0, .string ⟨#[]⟩, .slice none 0 0, .slice none 0 0, .bool false, .string ⟨#[]⟩, .slice none 0 0, .int .i64 0, .slice none 0 0, .string ⟨#[]⟩, .bool false] (wk.toNat * 26)) 120)
          try simp only [Act.put, List.setIfInBounds_toArray, List.set_cons_zero, List.set_cons_succ]
          refine u_reads ?_ (by rfl) (fun w' hR => ?_) ?_
          rotate_left
          · (go_simp; try with_reducible rfl)
          simp only [Act.put, List.setIfInBounds_toArray, List.set_cons_zero, List.set_cons_succ]
          refine u_does (by rfl) (fun K hK => ?_)
          go_simp
          have hs := (hf08.trans hcur (fun _ _ h => h)).size
          refine hK _ _ ?hq ?_
          case hq => exact (Fr.refl _ _).alloc _
          try simp only [Act.put, List.setIfInBounds_toArray, List.set_cons_zero, List.set_cons_succ]
          refine u_reads ?_ (by rfl) (fun w' hR => ?_) ?_
          rotate_left
          · (go_simp; try with_reducible rfl)
          simp only [Act.put, List.setIfInBounds_toArray, List.set_cons_zero, List.set_cons_succ]
          refine u_end ?_
          go_wp2_with fail
          go_ret
          try simp only [World.size_alloc, drew_size] at hs
          try simp only [World.size_alloc, drew_size] at hWk
          try simp only [World.size_alloc, drew_size] at hN
          refine srvNew_mk HEk0.out HEwk.out HEk4.out HEk5.out rfl (blk_new_at ?h0 _ _) ?h1 hgc hN hW hQ hWk (hf08.trans hcur (fun _ _ h => h))
          case h0 => simp
          case h1 => omega
        · go_simp
          refine hK _ _ ?hq ?_
          case hq => exact (Fr.refl _ _).alloc _
          have hWk := workNew_at hcur wk.toNat
          replace hcur := hcur.alloc (.cells (madeCells #[.int .i64 0, .int .i64 0, .int .i64 0, .string ⟨#[]⟩, .string ⟨#[]⟩, .slice none 0 0, .string ⟨#[]⟩, .bool false, .string ⟨#[]⟩, .string ⟨#[]⟩, .slice none 0 0, .string ⟨#[]⟩, .bool false, .int .i64 0, .int .i64 0, .int .i64 0, .string ⟨#[]⟩, .slice none 0 0, .slice none 0 0, .bool false, .string ⟨#[]⟩, .slice none 0 0, .int .i64 0, .slice none 0 0, .string ⟨#[]⟩, .bool false] (wk.toNat * 26)) 120)
          try replace hN := hN.fr ((Fr.refl No _).alloc (.cells (madeCells #[.int .i64 0, .int .i64 0, .int .i64 0, .string ⟨#[]⟩, .string ⟨#[]⟩, .slice none 0 0, .string ⟨#[]⟩, .bool false, .string ⟨#[]⟩, .string ⟨#[]⟩, .slice none 0 0, .string ⟨#[]⟩, .bool false, .int .i64 0, .int .i64 0, .int .i64 0, .string ⟨#[]⟩, .slice none 0 0, .slice none 0 0, .bool false, .string ⟨#[]⟩, .slice none 0 0, .int .i64 0, .slice none 0 0, .string ⟨#[]⟩, .bool false] (wk.toNat * 26)) 120))
          try replace hW := hW.fr ((Fr.refl No _).alloc (.cells (madeCells #[.int .i64 0, .int .i64 0, .int .i64 0, .string ⟨#[]⟩, .string ⟨#[]⟩, .slice none 0 0, .string ⟨#[]⟩, .bool false, .string ⟨#[]⟩, .string ⟨#[]⟩, .slice none 0 0, .string ⟨#[]⟩, .bool false, .int .i64 0, .int .i64 0, .int .i64 0, .string ⟨#[]⟩, .slice none 0 0, .slice none 0 0, .bool false, .string ⟨#[]⟩, .slice none 0 0, .int .i64 0, .slice none 0 0, .string ⟨#[]⟩, .bool false] (wk.toNat * 26)) 120))
          try replace hQ := hQ.fr ((Fr.refl No _).alloc (.cells (madeCells #[.int .i64 0, .int .i64 0, .int .i64 0, .string ⟨#[]⟩, .string ⟨#[]⟩, .slice none 0 0, .string ⟨#[]⟩, .bool false, .string ⟨#[]⟩, .string ⟨#[]⟩, .slice none 0 0, .string ⟨#[]⟩, .bool false, .int .i64 0, .int .i64 0, .int .i64 0, .string ⟨#[]⟩, .slice none 0 0, .slice none 0 0, .bool false, .string ⟨#[]⟩, .slice none 0 0, .int .i64 0, .slice none 0 0, .string ⟨#[]⟩, .bool false] (wk.toNat * 26)) 120))
          try replace hc9' := hc9'.alloc (.cells (madeCells #[.int .i64 0, .int .i64 0, .int .i64 0, .string ⟨#[]⟩, .string ⟨#[]⟩, .slice none 0 0, .string ⟨#[]⟩, .bool false, .string ⟨#[]⟩, .string ⟨#[]⟩, .slice none 0 0, .string ⟨#[]⟩, .bool false, .int .i64 0, .int .i64 0, .int .i64 0, .string ⟨#[]⟩, .slice none 0 0, .slice none 0 0, .bool false, .string ⟨#[]⟩, .slice none 0 0, .int .i64 0, .slice none 0 0, .string ⟨#[]⟩, .bool false] (wk.toNat * 26)) 120)
          try simp only [Act.put, List.setIfInBounds_toArray, List.set_cons_zero, List.set_cons_succ]
          refine u_does (by rfl) (fun K hK => ?_)
          go_simp
          refine (queueNew_any _ c.jobs).mono (Hid.out ?_)
          refine Lib.hid ?_
          rintro e w11 ⟨gq, rq, nq, rfl, hq1, hq2, hq3, hq4, hq5, hf11⟩
          refine hK _ _ hf11 ?_
          have hQ : QueueNew w8.heap.size w11 gq c.jobs := ⟨rq, nq, Nat.le_trans hcur.size hq1, Nat.le_trans hcur.size hq2, hq3, hq4, hq5⟩
          clear hq1 hq2 hq3 hq4 hq5
          replace hcur := hcur.trans hf11 (fun _ _ h => h)
          try replace hN := hN.fr hf11
          try replace hW := hW.fr hf11
          try replace hWk := hWk.fr hf11
          try simp only [Act.put, List.setIfInBounds_toArray, List.set_cons_zero, List.set_cons_succ]
          refine u_reads ?_ (by rfl) (fun w' hR => ?_) ?_
          rotate_left
          · (go_simp; try with_reducible rfl)
          simp only [Act.put, List.setIfInBounds_toArray, List.set_cons_zero, List.set_cons_succ]
          refine u_does (by rfl) (fun K hK => ?_)
          go_simp
          have hs := (hf08.trans hcur (fun _ _ h => h)).size
          refine hK _ _ ?hq ?_
          case hq => exact (Fr.refl _ _).alloc _
          try simp only [Act.put, List.setIfInBounds_toArray, List.set_cons_zero, List.set_cons_succ]
          refine u_reads ?_ (by rfl) (fun w' hR => ?_) ?_
          rotate_left
          · (go_simp; try with_reducible rfl)
          simp only [Act.put, List.setIfInBounds_toArray, List.set_cons_zero, List.set_cons_succ]
          refine u_end ?_
          go_wp2_with fail
          go_ret
          try simp only [World.size_alloc, drew_size] at hs
          try simp only [World.size_alloc, drew_size] at hWk
          try simp only [World.size_alloc, drew_size] at hN
          refine srvNew_mk HEk0.out HEwk.out HEk4.out HEk5.out rfl (blk_new_at ?h0 _ _) ?h1 hgc hN hW hQ hWk (hf08.trans hcur (fun _ _ h => h))
          case h0 => simp
          case h1 => omega
      · go_simp
        refine hK _ _ ?hq ?_
        case hq => exact (Fr.refl _ _).alloc _
        have hWk := workNew_at hcur wk.toNat
        replace hcur := hcur.alloc (.cells (madeCells #[.int .i64 0, .int .i64 0, .int .i64 0, .string ⟨#[]⟩, .string ⟨#[]⟩, .slice none 0 0, .string ⟨#[]⟩, .bool false, .string ⟨#[]⟩, .string ⟨#[]⟩, .slice none 0 0, .string ⟨#[]⟩, .bool false, .int .i64 0, .int .i64 0, .int .i64 0, .string ⟨#[]⟩, .slice none 0 0, .slice none 0 0, .bool false, .string ⟨#[]⟩, .slice none 0 0, .int .i64 0, .slice none 0 0, .string ⟨#[]⟩, .bool false] (wk.toNat * 26)) 120)
        try replace hN := hN.fr ((Fr.refl No _).alloc (.cells (madeCells #[.int .i64 0, .int .i64 0, .int .i64 0, .string ⟨#[]⟩, .string ⟨#[]⟩, .slice none 0 0, .string ⟨#[]⟩, .bool false, .string ⟨#[]⟩, .string ⟨#[]⟩, .slice none 0 0, .string ⟨#[]⟩, .bool false, .int .i64 0, .int .i64 0, .int .i64 0, .string ⟨#[]⟩, .slice none 0 0, .slice none 0 0, .bool false, .string ⟨#[]⟩, .slice none 0 0, .int .i64 0, .slice none 0 0, .string ⟨#[]⟩, .bool false] (wk.toNat * 26)) 120))
        try replace hW := hW.fr ((Fr.refl No _).alloc (.cells (madeCells #[.int .i64 0, .int .i64 0, .int .i64 0, .string ⟨#[]⟩, .string ⟨#[]⟩, .slice none 0 0, .string ⟨#[]⟩, .bool false, .string ⟨#[]⟩, .string ⟨#[]⟩, .slice none 0 0, .string ⟨#[]⟩, .bool false, .int .i64 0, .int .i64 0, .int .i64 0, .string ⟨#[]⟩, .slice none 0 0, .slice none 0 0, .bool false, .string ⟨#[]⟩, .slice none 0 0, .int .i64 0, .slice none 0 0, .string ⟨#[]⟩, .bool false] (wk.toNat * 26)) 120))
        try replace hQ := hQ.fr ((Fr.refl No _).alloc (.cells (madeCells #[.int .i64 0, .int .i64 0, .int .i64 0, .string ⟨#[]⟩, .string ⟨#[]⟩, .slice none 0 0, .string ⟨#[]⟩, .bool false, .string ⟨#[]⟩, .string ⟨#[]⟩, .slice none 0 0, .string ⟨#[]⟩, .bool false, .int .i64 0, .int .i64 0, .int .i64 0, .string ⟨#[]⟩, .slice none 0 0, .slice none 0 0, .bool false, .string ⟨#[]⟩, .slice none 0 0, .int .i64 0, .slice none 0 0, .string ⟨#[]⟩, .bool false] (wk.toNat * 26)) 120))
        try replace hc9' := hc9'.alloc (.cells (madeCells #[.int .i64 0, .int .i64 0, .int .i64 0, .string ⟨#[]⟩, .string ⟨#[]⟩, .slice none 0 0, .string ⟨#[]⟩, .bool false, .string ⟨#[]⟩, .string ⟨#[]⟩, .slice none 0 0, .string ⟨#[]⟩, .bool false, .int .i64 0, .int .i64 0, .int .i64 0, .string ⟨#[]⟩, .slice none 0 0, .slice none 0 0, .bool false, .string ⟨#[]⟩, .slice none 0 0, .int .i64 0, .slice none 0 0, .string ⟨#[]⟩, .bool false] (wk.toNat * 26)) 120)
        try simp only [Act.put, List.setIfInBounds_toArray, List.set_cons_zero, List.set_cons_succ]
        refine u_does (by rfl) (fun K hK => ?_)
        go_simp
        refine (handleNew_any _ _ (HHw.out _ hcur) c.token A9 c9 FR (hr9.fr hc9' (fun _ _ h => h)) hlen8 hsm8).mono (Hid.out ?_)
        refine Lib.hid ?_
        rintro e w10 ⟨gw, rfl, hgw, hf10⟩
        refine hK _ _ hf10 ?_
        have hW := hgw.base hcur.size
        clear hgw
        replace hcur := hcur.trans hf10 (fun _ _ h => h)
        try replace hN := hN.fr hf10
        try replace hQ := hQ.fr hf10
        try replace hWk := hWk.fr hf10
        try simp only [Act.put, List.setIfInBounds_toArray, List.set_cons_zero, List.set_cons_succ]
        refine u_does (by rfl) (fun K hK => ?_)
        go_simp
        refine (queueNew_any _ c.jobs).mono (Hid.out ?_)
        refine Lib.hid ?_
        rintro e w11 ⟨gq, rq, nq, rfl, hq1, hq2, hq3, hq4, hq5, hf11⟩
        refine hK _ _ hf11 ?_
        have hQ : QueueNew w8.heap.size w11 gq c.jobs := ⟨rq, nq, Nat.le_trans hcur.size hq1, Nat.le_trans hcur.size hq2, hq3, hq4, hq5⟩
        clear hq1 hq2 hq3 hq4 hq5
        replace hcur := hcur.trans hf11 (fun _ _ h => h)
        try replace hN := hN.fr hf11
        try replace hW := hW.fr hf11
        try replace hWk := hWk.fr hf11
        try simp only [Act.put, List.setIfInBounds_toArray, List.set_cons_zero, List.set_cons_succ]
        refine u_reads ?_ (by rfl) (fun w' hR => ?_) ?_
        rotate_left
        · (go_simp; try with_reducible rfl)
        simp only [Act.put, List.setIfInBounds_toArray, List.set_cons_zero, List.set_cons_succ]
        refine u_does (by rfl) (fun K hK => ?_)
        go_simp
        have hs := (hf08.trans hcur (fun _ _ h => h)).size
        refine hK _ _ ?hq ?_
        case hq => exact (Fr.refl _ _).alloc _
        try simp only [Act.put, List.setIfInBounds_toArray, List.set_cons_zero, List.set_cons_succ]
        refine u_reads ?_ (by rfl) (fun w' hR => ?_) ?_
        rotate_left
        · (go_simp; try with_reducible rfl)
        simp only [Act.put, List.setIfInBounds_toArray, List.set_cons_zero, List.set_cons_succ]
        refine u_end ?_
        go_wp2_with fail
        go_ret
        try simp only [World.size_alloc, drew_size] at hs
        try simp only [World.size_alloc, drew_size] at hWk
        try simp only [World.size_alloc, drew_size] at hN
        refine srvNew_mk HEk0.out HEwk.out HEk4.out HEk5.out rfl (blk_new_at ?h0 _ _) ?h1 hgc hN hW hQ hWk (hf08.trans hcur (fun _ _ h => h))
        case h0 => simp
        case h1 => omega
    · go_simp
      refine (handleNew_any _ _ (HHw.out _ hcur) c.token A9 c9 FR (hr9.fr hc9' (fun _ _ h => h)) hlen8 hsm8).mono (Hid.out ?_)
      refine Lib.hid ?_
      rintro e w10 ⟨gw, rfl, hgw, hf10⟩
      refine hK _ _ hf10 ?_
      have hW := hgw.base hcur.size
      clear hgw
      replace hcur := hcur.trans hf10 (fun _ _ h => h)
      try replace hN := hN.fr hf10
      try replace hQ := hQ.fr hf10
      try replace hWk := hWk.fr hf10
      try simp only [Act.put, List.setIfInBounds_toArray, List.set_cons_zero, List.set_cons_succ]
      refine u_three (by rfl) (by rfl) (by rfl) (fun K hK => ?_) (fun K hK => ?_) (fun K hK => ?_)
      · go_simp
        refine hK _ _ ?hq ?_
        case hq => exact (Fr.refl _ _).alloc _
        have hN := netNew_at hcur
        replace hcur := hcur.alloc (.cells #[.slice none 0 0, .slice none 0 0] 56)
        try replace hW := hW.fr ((Fr.refl No _).alloc (.cells #[.slice none 0 0, .slice none 0 0] 56))
        try replace hQ := hQ.fr ((Fr.refl No _).alloc (.cells #[.slice none 0 0, .slice none 0 0] 56))
        try replace hWk := hWk.fr ((Fr.refl No _).alloc (.cells #[.slice none 0 0, .slice none 0 0] 56))
        try replace hc9' := hc9'.alloc (.cells #[.slice none 0 0, .slice none 0 0] 56)
        try simp only [Act.put, List.setIfInBounds_toArray, List.set_cons_zero, List.set_cons_succ]
        refine u_two (by rfl) (by rfl) (fun K hK => ?_) (fun K hK => ?_)
        · go_simp
          refine (queueNew_any _ c.jobs).mono (Hid.out ?_)
          refine Lib.hid ?_
          rintro e w11 ⟨gq, rq, nq, rfl, hq1, hq2, hq3, hq4, hq5, hf11⟩
          refine hK _ _ hf11 ?_
          have hQ : QueueNew w8.heap.size w11 gq c.jobs := ⟨rq, nq, Nat.le_trans hcur.size hq1, Nat.le_trans hcur.size hq2, hq3, hq4, hq5⟩
          clear hq1 hq2 hq3 hq4 hq5
          replace hcur := hcur.trans hf11 (fun _ _ h => h)
          try replace hN := hN.fr hf11
          try replace hW := hW.fr hf11
          try replace hWk := hWk.fr hf11
          try simp only [Act.put, List.setIfInBounds_toArray, List.set_cons_zero, List.set_cons_succ]
          refine u_does (by rfl) (fun K hK => ?_)
          go_simp
          refine hK _ _ ?hq ?_
          case hq => exact (Fr.refl _ _).alloc _
          have hWk := workNew_at hcur wk.toNat
          replace hcur := hcur.alloc (.cells (madeCells #[.int .i64 0, .int .i64 0, .int .i64 0, .string ⟨#[]⟩, .string ⟨#[]⟩, .slice none 0 0, .string ⟨#[]⟩, .bool false, .string ⟨#[]⟩, .string ⟨#[]⟩, .slice none 0 0, .string ⟨#[]⟩, .bool false, .int .i64 0, .int .i64 0, .int .i64 0, .string ⟨#[]⟩, .slice none 0 0, .slice none 0 0, .bool false, .string ⟨#[]⟩, .slice none 0 0, .int .i64 0, .slice none 0 0, .string ⟨#[]⟩, .bool false] (wk.toNat * 26)) 120)
          try replace hN := hN.fr ((Fr.refl No _).alloc (.cells (madeCells #[.int .i64 0, .int .i64 0, .int .i64 0, .string ⟨#[]⟩, .string ⟨#[]⟩, .slice none 0 0, .string ⟨#[]⟩, .bool false, .string ⟨#[]⟩, .string ⟨#[]⟩, .slice none 0 0, .string ⟨#[]⟩, .bool false, .int .i64 0, .int .i64 0, .int .i64 0, .string ⟨#[]⟩, .slice none 0 0, .slice none 0 0, .bool false, .string ⟨#[]⟩, .slice none 0 0, .int .i64 0, .slice none 0 0, .string ⟨#[]⟩, .bool false] (wk.toNat * 26)) 120))
          try replace hW := hW.fr ((Fr.refl No _).alloc (.cells (madeCells #[.int .i64 0, .int .i64 0, .int .i64 0, .string ⟨#[]⟩, .string ⟨#[]⟩, .slice none 0 0, .string ⟨#[]⟩, .bool false, .string ⟨#[]⟩, .string ⟨#[]⟩, .slice none 0 0, .string ⟨#[]⟩, .bool false, .int .i64 0, .int .i64 0, .int .i64 0, .string ⟨#[]⟩, .slice none 0 0, .slice none 0 0, .bool false, .string ⟨#[]⟩, .slice none 0 0, .int .i64 0, .slice none 0 0, .string ⟨#[]⟩, .bool false] (wk.toNat * 26)) 120))
          try replace hQ := hQ.fr ((Fr.refl No _).alloc (.cells (madeCells #[.int .i64 0, .int .i64 0, .int .i64 0, .string ⟨#[]⟩, .string ⟨#[]⟩, .slice none 0 0, .string ⟨#[]⟩, .bool false, .string ⟨#[]⟩, .string ⟨#[]⟩, .slice none 0 0, .string ⟨#[]⟩, .bool false, .int .i64 0, .int .i64 0, .int .i64 0, .string ⟨#[]⟩, .slice none 0 0, .slice none 0 0, .bool false, .string ⟨#[]⟩, .slice none 0 0, .int .i64 0, .slice none 0 0, .string ⟨#[]⟩, .bool false] (wk.toNat * 26)) 120))
          try replace hc9' := hc9'.alloc (.cells (madeCells #[.int .i64 0, .int .i64 0, .int .i64 0, .string ⟨#[]⟩, .string ⟨#[]⟩, .slice none 0 0, .string ⟨#[]⟩, .bool false, .string ⟨#[]⟩, .string ⟨#[]⟩, .slice none 0 0, .string ⟨#[]⟩, .bool false, .int .i64 0, .int .i64 0, .int .i64 0, .string ⟨#[]⟩, .slice none 0 0, .slice none 0 0, .bool false, .string ⟨#[]⟩, .slice none 0 0, .int .i64 0, .slice none 0 0, .string ⟨#[]⟩, .bool false] (wk.toNat * 26)) 120)
          try simp only [Act.put, List.setIfInBounds_toArray, List.set_cons_zero, List.set_cons_succ]
          refine u_reads ?_ (by rfl) (fun w' hR => ?_) ?_
          rotate_left
          · (go_simp; try with_reducible rfl)
          simp only [Act.put, List.setIfInBounds_toArray, List.set_cons_zero, List.set_cons_succ]
          refine u_does (by rfl) (fun K hK => ?_)
          go_simp
          have hs := (hf08.trans hcur (fun _ _ h => h)).size
          refine hK _ _ ?hq ?_
          case hq => exact (Fr.refl _ _).alloc _
          try simp only [Act.put, List.setIfInBounds_toArray, List.set_cons_zero, List.set_cons_succ]
          refine u_reads ?_ (by rfl) (fun w' hR => ?_) ?_
          rotate_left
          · (go_simp; try with_reducible rfl)
          simp only [Act.put, List.setIfInBounds_toArray, List.set_cons_zero, List.set_cons_succ]
          refine u_end ?_
          go_wp2_with fail
          go_ret
          try simp only [World.size_alloc, drew_size] at hs
          try simp only [World.size_alloc, drew_size] at hWk
          try simp only [World.size_alloc, drew_size] at hN
          refine srvNew_mk HEk0.out HEwk.out HEk4.out HEk5.out rfl (blk_new_at ?h0 _ _) ?h1 hgc hN hW hQ hWk (hf08.trans hcur (fun _ _ h => h))
          case h0 => simp
          case h1 => omega
        · go_simp
          refine hK _ _ ?hq ?_
          case hq => exact (Fr.refl _ _).alloc _
          have hWk := workNew_at hcur wk.toNat
          replace hcur := hcur.alloc (.cells (madeCells #[.int .i64 0, .int .i64 0, .int .i64 0, .string ⟨#[]⟩, .string ⟨#[]⟩, .slice none 0 0, .string ⟨#[]⟩, .bool false, .string ⟨#[]⟩, .string ⟨#[]⟩, .slice none 0 0, .string ⟨#[]⟩, .bool false, .int .i64 0, .int .i64 0, .int .i64 0, .string ⟨#[]⟩, .slice none 0 0, .slice none 0 0, .bool false, .string ⟨#[]⟩, .slice none 0 0, .int .i64 0, .slice none 0 0, .string ⟨#[]⟩, .bool false] (wk.toNat * 26)) 120)
          try replace hN := hN.fr ((Fr.refl No _).alloc (.cells (madeCells #[.int .i64 0, .int .i64 0, .int .i64 0, .string ⟨#[]⟩, .string ⟨#[]⟩, .slice none 0 0, .string ⟨#[]⟩, .bool false, .string ⟨#[]⟩, .string ⟨#[]⟩, .slice none 0 0, .string ⟨#[]⟩, .bool false, .int .i64 0, .int .i64 0, .int .i64 0, .string ⟨#[]⟩, .slice none 0 0, .slice none 0 0, .bool false, .string ⟨#[]⟩, .slice none 0 0, .int .i64 0, .slice none 0 0, .string ⟨#[]⟩, .bool false] (wk.toNat * 26)) 120))
          try replace hW := hW.fr ((Fr.refl No _).alloc (.cells (madeCells #[.int .i64 0, .int .i64 0, .int .i64 0, .string ⟨#[]⟩, .string ⟨#[]⟩, .slice none 0 0, .string ⟨#[]⟩, .bool false, .string ⟨#[]⟩, .string ⟨#[]⟩, .slice none 0 0, .string ⟨#[]⟩, .bool false, .int .i64 0, .int .i64 0, .int .i64 0, .string ⟨#[]⟩, .slice none 0 0, .slice none 0 0, .bool false, .string ⟨#[]⟩, .slice none 0 0, .int .i64 0, .slice none 0 0, .string ⟨#[]⟩, .bool false] (wk.toNat * 26)) 120))
          try replace hQ := hQ.fr ((Fr.refl No _).alloc (.cells (madeCells #[.int .i64 0, .int .i64 0, .int .i64 0, .string ⟨#[]⟩, .string ⟨#[]⟩, .slice none 0 0, .string ⟨#[]⟩, .bool false, .string ⟨#[]⟩, .string ⟨#[]⟩, .slice none 0 0, .string ⟨#[]⟩, .bool false, .int .i64 0, .int .i64 0, .int .i64 0, .string ⟨#[]⟩, .slice none 0 0, .slice none 0 0, .bool false, .string ⟨#[]⟩, .slice none 0 0, .int .i64 0, .slice none 0 0, .string ⟨#[]⟩, .bool false] (wk.toNat * 26)) 120))
          try replace hc9' := hc9'.alloc (.cells (madeCells #[.int .i64 0, .int .i64 0, .int .i64 0, .string ⟨#[]⟩, .string ⟨#[]⟩, .slice none 0 0, .string ⟨#[]⟩, .bool false, .string ⟨#[]⟩, .string ⟨#[]⟩, .slice none 0 0, .string ⟨#[]⟩, .bool false, .int .i64 0, .int .i64 0, .int .i64 0, .string ⟨#[]⟩, .slice none 0 0, .slice none 0 0, .bool false, .string ⟨#[]⟩, .slice none 0 0, .int .i64 0, .slice none 0 0, .string ⟨#[]⟩, .bool false] (wk.toNat * 26)) 120)
          try simp only [Act.put, List.setIfInBounds_toArray, List.set_cons_zero, List.set_cons_succ]
          refine u_does (by rfl) (fun K hK => ?_)
          go_simp
          refine (queueNew_any _ c.jobs).mono (Hid.out ?_)
          refine Lib.hid ?_
          rintro e w11 ⟨gq, rq, nq, rfl, hq1, hq2, hq3, hq4, hq5, hf11⟩
          refine hK _ _ hf11 ?_
          have hQ : QueueNew w8.heap.size w11 gq c.jobs := ⟨rq, nq, Nat.le_trans hcur.size hq1, Nat.le_trans hcur.size hq2, hq3, hq4, hq5⟩
          clear hq1 hq2 hq3 hq4 hq5
          replace hcur := hcur.trans hf11 (fun _ _ h => h)
          try replace hN := hN.fr hf11
          try replace hW := hW.fr hf11
          try replace hWk := hWk.fr hf11
          try simp only [Act.put, List.setIfInBounds_toArray, List.set_cons_zero, List.set_cons_succ]
          refine u_reads ?_ (by rfl) (fun w' hR => ?_) ?_
          rotate_left
          · (go_simp; try with_reducible rfl)
          simp only [Act.put, List.setIfInBounds_toArray, List.set_cons_zero, List.set_cons_succ]
          refine u_does (by rfl) (fun K hK => ?_)
          go_simp
          have hs := (hf08.trans hcur (fun _ _ h => h)).size
          refine hK _ _ ?hq ?_
          case hq => exact (Fr.refl _ _).alloc _
          try simp only [Act.put, List.setIfInBounds_toArray, List.set_cons_zero, List.set_cons_succ]
          refine u_reads ?_ (by rfl) (fun w' hR => ?_) ?_
          rotate_left
          · (go_simp; try with_reducible rfl)
          simp only [Act.put, List.setIfInBounds_toArray, List.set_cons_zero, List.set_cons_succ]
          refine u_end ?_
          go_wp2_with fail
          go_ret
          try simp only [World.size_alloc, drew_size] at hs
          try simp only [World.size_alloc, drew_size] at hWk
          try simp only [World.size_alloc, drew_size] at hN
          refine srvNew_mk HEk0.out HEwk.out HEk4.out HEk5.out rfl (blk_new_at ?h0 _ _) ?h1 hgc hN hW hQ hWk (hf08.trans hcur (fun _ _ h => h))
          case h0 => simp
          case h1 => omega
      · go_simp
        refine (queueNew_any _ c.jobs).mono (Hid.out ?_)
        refine Lib.hid ?_
        rintro e w11 ⟨gq, rq, nq, rfl, hq1, hq2, hq3, hq4, hq5, hf11⟩
        refine hK _ _ hf11 ?_
        have hQ : QueueNew w8.heap.size w11 gq c.jobs := ⟨rq, nq, Nat.le_trans hcur.size hq1, Nat.le_trans hcur.size hq2, hq3, hq4, hq5⟩
        clear hq1 hq2 hq3 hq4 hq5
        replace hcur := hcur.trans hf11 (fun _ _ h => h)
        try replace hN := hN.fr hf11
        try replace hW := hW.fr hf11
        try replace hWk := hWk.fr hf11
        try simp only [Act.put, List.setIfInBounds_toArray, List.set_cons_zero, List.set_cons_succ]
        refine u_two (by rfl) (by rfl) (fun K hK => ?_) (fun K hK => ?_)
        · go_simp
          refine hK _ _ ?hq ?_
          case hq => exact (Fr.refl _ _).alloc _
          have hN := netNew_at hcur
          replace hcur := hcur.alloc (.cells #[.slice none 0 0, .slice none 0 0] 56)
          try replace hW := hW.fr ((Fr.refl No _).alloc (.cells #[.slice none 0 0, .slice none 0 0] 56))
          try replace hQ := hQ.fr ((Fr.refl No _).alloc (.cells #[.slice none 0 0, .slice none 0 0] 56))
          try replace hWk := hWk.fr ((Fr.refl No _).alloc (.cells #[.slice none 0 0, .slice none 0 0] 56))
          try replace hc9' := hc9'.alloc (.cells #[.slice none 0 0, .slice none 0 0] 56)
          try simp only [Act.put, List.setIfInBounds_toArray, List.set_cons_zero, List.set_cons_succ]
          refine u_does (by rfl) (fun K hK => ?_)
          go_simp
          refine hK _ _ ?hq ?_
          case hq => exact (Fr.refl _ _).alloc _
          have hWk := workNew_at hcur wk.toNat
          replace hcur := hcur.alloc (.cells (madeCells #[.int .i64 0, .int .i64 0, .int .i64 0, .string ⟨#[]⟩, .string ⟨#[]⟩, .slice none 0 0, .string ⟨#[]⟩, .bool false, .string ⟨#[]⟩, .string ⟨#[]⟩, .slice none 0 0, .string ⟨#[]⟩, .bool false, .int .i64 0, .int .i64 0, .int .i64 0, .string ⟨#[]⟩, .slice none 0 0, .slice none 0 0, .bool false, .string ⟨#[]⟩, .slice none 0 0, .int .i64 0, .slice none 0 0, .string ⟨#[]⟩, .bool false] (wk.toNat * 26)) 120)
          try replace hN := hN.fr ((Fr.refl No _).alloc (.cells (madeCells #[.int .i64 0, .int .i64 0, .int .i64 0, .string ⟨#[]⟩, .string ⟨#[]⟩, .slice none 0 0, .string ⟨#[]⟩, .bool false, .string ⟨#[]⟩, .string ⟨#[]⟩, .slice none 0 0, .string ⟨#[]⟩, .bool false, .int .i64 0, .int .i64 0, .int .i64 0, .string ⟨#[]⟩, .slice none 0 0, .slice none 0 0, .bool false, .string ⟨#[]⟩, .slice none 0 0, .int .i64 0, .slice none 0 0, .string ⟨#[]⟩, .bool false] (wk.toNat * 26)) 120))
          try replace hW := hW.fr ((Fr.refl No _).alloc (.cells (madeCells #[.int .i64 0, .int .i64 0, .int .i64 0, .string ⟨#[]⟩, .string ⟨#[]⟩, .slice none 0 0, .string ⟨#[]⟩, .bool false, .string ⟨#[]⟩, .string ⟨#[]⟩, .slice none 0 0, .string ⟨#[]⟩, .bool false, .int .i64 0, .int .i64 0, .int .i64 0, .string ⟨#[]⟩, .slice none 0 0, .slice none 0 0, .bool false, .string ⟨#[]⟩, .slice none 0 0, .int .i64 0, .slice none 0 0, .string ⟨#[]⟩, .bool false] (wk.toNat * 26)) 120))
          try replace hQ := hQ.fr ((Fr.refl No _).alloc (.cells (madeCells #[.int .i64 0, .int .i64 0, .int .i64 0, .string ⟨#[]⟩, .string ⟨#[]⟩, .slice none 0 0, .string ⟨#[]⟩, .bool false, .string ⟨#[]⟩, .string ⟨#[]⟩, .slice none 0 0, .string ⟨#[]⟩, .bool false, .int .i64 0, .int .i64 0, .int .i64 0, .string ⟨#[]⟩, .slice none 0 0, .slice none 0 0, .bool false, .string ⟨#[]⟩, .slice none 0 0, .int .i64 0, .slice none 0 0, .string ⟨#[]⟩, .bool false] (wk.toNat * 26)) 120))
          try replace hc9' := hc9'.alloc (.cells (madeCells #[.int .i64 0, .int .i64 0, .int .i64 0, .string ⟨#[]⟩, .string ⟨#[]⟩, .slice none 0 0, .string ⟨#[]⟩, .bool false, .string ⟨#[]⟩, .string ⟨#[]⟩, .slice none 0 0, .string ⟨#[]⟩, .bool false, .int .i64 0, .int .i64 0, .int .i64 0, .string ⟨#[]⟩, .slice none 0 0, .slice none 0 0, .bool false, .string ⟨#[]⟩, .slice none 0 0, .int .i64 0, .slice none 0 0, .string ⟨#[]⟩, .bool false] (wk.toNat * 26)) 120)
          try simp only [Act.put, List.setIfInBounds_toArray, List.set_cons_zero, List.set_cons_succ]
          refine u_reads ?_ (by rfl) (fun w' hR => ?_) ?_
          rotate_left
          · (go_simp; try with_reducible rfl)
          simp only [Act.put, List.setIfInBounds_toArray, List.set_cons_zero, List.set_cons_succ]
          refine u_does (by rfl) (fun K hK => ?_)
          go_simp
          have hs := (hf08.trans hcur (fun _ _ h => h)).size
          refine hK _ _ ?hq ?_
          case hq => exact (Fr.refl _ _).alloc _
          try simp only [Act.put, List.setIfInBounds_toArray, List.set_cons_zero, List.set_cons_succ]
          refine u_reads ?_ (by rfl) (fun w' hR => ?_) ?_
          rotate_left
          · (go_simp; try with_reducible rfl)
          simp only [Act.put, List.setIfInBounds_toArray, List.set_cons_zero, List.set_cons_succ]
          refine u_end ?_
          go_wp2_with fail
          go_ret
          try simp only [World.size_alloc, drew_size] at hs
          try simp only [World.size_alloc, drew_size] at hWk
          try simp only [World.size_alloc, drew_size] at hN
          refine srvNew_mk HEk0.out HEwk.out HEk4.out HEk5.out rfl (blk_new_at ?h0 _ _) ?h1 hgc hN hW hQ hWk (hf08.trans hcur (fun _ _ h => h))
          case h0 => simp
          case h1 => omega
        · go_simp
          refine hK _ _ ?hq ?_
          case hq => exact (Fr.refl _ _).alloc _
          have hWk := workNew_at hcur wk.toNat
          replace hcur := hcur.alloc (.cells (madeCells #[.int .i64 0, .int .i64 0, .int .i64 0, .string ⟨#[]⟩, .string ⟨#[]⟩, .slice none 0 0, .string ⟨#[]⟩, .bool false, .string ⟨#[]⟩, .string ⟨#[]⟩, .slice none 0 0, .string ⟨#[]⟩, .bool false, .int .i64 0, .int .i64 0, .int .i64 0, .string ⟨#[]⟩, .slice none 0 0, .slice none 0 0, .bool false, .string ⟨#[]⟩, .slice none 0 0, .int .i64 0, .slice none 0 0, .string ⟨#[]⟩, .bool false] (wk.toNat * 26)) 120)
          try replace hN := hN.fr ((Fr.refl No _).alloc (.cells (madeCells #[.int .i64 0, .int .i64 0, .int .i64 0, .string ⟨#[]⟩, .string ⟨#[]⟩, .slice none 0 0, .string ⟨#[]⟩, .bool false, .string ⟨#[]⟩, .string ⟨#[]⟩, .slice none 0 0, .string ⟨#[]⟩, .bool false, .int .i64 0, .int .i64 0, .int .i64 0, .string ⟨#[]⟩, .slice none 0 0, .slice none 0 0, .bool false, .string ⟨#[]⟩, .slice none 0 0, .int .i64 0, .slice none 0 0, .string ⟨#[]⟩, .bool false] (wk.toNat * 26)) 120))
          try replace hW := hW.fr ((Fr.refl No _).alloc (.cells (madeCells #[.int .i64 0, .int .i64 0, .int .i64 0, .string ⟨#[]⟩, .string ⟨#[]⟩, .slice none 0 0, .string ⟨#[]⟩, .bool false, .string ⟨#[]⟩, .string ⟨#[]⟩, .slice none 0 0, .string ⟨#[]⟩, .bool false, .int .i64 0, .int .i64 0, .int .i64 0, .string ⟨#[]⟩, .slice none 0 0, .slice none 0 0, .bool false, .string ⟨#[]⟩, .slice none 0 0, .int .i64 0, .slice none 0 0, .string ⟨#[]⟩, .bool false] (wk.toNat * 26)) 120))
          try replace hQ := hQ.fr ((Fr.refl No _).alloc (.cells (madeCells #[.int .i64 0, .int .i64 0, .int .i64 0, .string ⟨#[]⟩, .string ⟨#[]⟩, .slice none 0 0, .string ⟨#[]⟩, .bool false, .string ⟨#[]⟩, .string ⟨#[]⟩, .slice none 0 0, .string ⟨#[]⟩, .bool false, .int .i64 0, .int .i64 0, .int .i64 0, .string ⟨#[]⟩, .slice none 0 0, .slice none 0 0, .bool false, .string ⟨#[]⟩, .slice none 0 0, .int .i64 0, .slice none 0 0, .string ⟨#[]⟩, .bool false] (wk.toNat * 26)) 120))
          try replace hc9' := hc9'.alloc (.cells (madeCells #[.int .i64 0, .int .i64 0, .int .i64 0, .string ⟨#[]⟩, .string ⟨#[]⟩, .slice none 0 0, .string ⟨#[]⟩, .bool false, .string ⟨#[]⟩, .string ⟨#[]⟩, .slice none 0 0, .string ⟨#[]⟩, .bool false, .int .i64 0, .int .i64 0, .int .i64 0, .string ⟨#[]⟩, .slice none 0 0, .slice none 0 0, .bool false, .string ⟨#[]⟩, .slice none 0 0, .int .i64 0, .slice none 0 0, .string ⟨#[]⟩, .bool false] (wk.toNat * 26)) 120)
          try simp only [Act.put, List.setIfInBounds_toArray, List.set_cons_zero, List.set_cons_succ]
          refine u_does (by rfl) (fun K hK => ?_)
          go_simp
          refine hK _ _ ?hq ?_
          case hq => exact (Fr.refl _ _).alloc _
          have hN := netNew_at hcur
          replace hcur := hcur.alloc (.cells #[.slice none 0 0, .slice none 0 0] 56)
          try replace hW := hW.fr ((Fr.refl No _).alloc (.cells #[.slice none 0 0, .slice none 0 0] 56))
          try replace hQ := hQ.fr ((Fr.refl No _).alloc (.cells #[.slice none 0 0, .slice none 0 0] 56))
          try replace hWk := hWk.fr ((Fr.refl No _).alloc (.cells #[.slice none 0 0, .slice none 0 0] 56))
          try replace hc9' := hc9'.alloc (.cells #[.slice none 0 0, .slice none 0 0] 56)
          try simp only [Act.put, List.setIfInBounds_toArray, List.set_cons_zero, List.set_cons_succ]
          refine u_reads ?_ (by rfl) (fun w' hR => ?_) ?_
          rotate_left
          · (go_simp; try with_reducible rfl)
          simp only [Act.put, List.setIfInBounds_toArray, List.set_cons_zero, List.set_cons_succ]
          refine u_does (by rfl) (fun K hK => ?_)
          go_simp
          have hs := (hf08.trans hcur (fun _ _ h => h)).size
          refine hK _ _ ?hq ?_
          case hq => exact (Fr.refl _ _).alloc _
          try simp only [Act.put, List.setIfInBounds_toArray, List.set_cons_zero, List.set_cons_succ]
          refine u_reads ?_ (by rfl) (fun w' hR => ?_) ?_
          rotate_left
          · (go_simp; try with_reducible rfl)
          simp only [Act.put, List.setIfInBounds_toArray, List.set_cons_zero, List.set_cons_succ]
          refine u_end ?_
          go_wp2_with fail
          go_ret
          try simp only [World.size_alloc, drew_size] at hs
          try simp only [World.size_alloc, drew_size] at hWk
          try simp only [World.size_alloc, drew_size] at hN
          refine srvNew_mk HEk0.out HEwk.out HEk4.out HEk5.out rfl (blk_new_at ?h0 _ _) ?h1 hgc hN hW hQ hWk (hf08.trans hcur (fun _ _ h => h))
          case h0 => simp
          case h1 => omega
      · go_simp
        refine hK _ _ ?hq ?_
        case hq => exact (Fr.refl _ _).alloc _
        have hWk := workNew_at hcur wk.toNat
        replace hcur := hcur.alloc (.cells (madeCells #[.int .i64 0, .int .i64 0, .int .i64 0, .string ⟨#[]⟩, .string ⟨#[]⟩, .slice none 0 0, .string ⟨#[]⟩, .bool false, .string ⟨#[]⟩, .string ⟨#[]⟩, .slice none 0 0, .string ⟨#[]⟩, .bool false, .int .i64 0, .int .i64 0, .int .i64 0, .string ⟨#[]⟩, .slice none 0 0, .slice none 0 0, .bool false, .string ⟨#[]⟩, .slice none 0 0, .int .i64 0, .slice none 0 0, .string ⟨#[]⟩, .bool false] (wk.toNat * 26)) 120)
        try replace hN := hN.fr ((Fr.refl No _).alloc (.cells (madeCells #[.int .i64 0, .int .i64 0, .int .i64 0, .string ⟨#[]⟩, .string ⟨#[]⟩, .slice none 0 0, .string ⟨#[]⟩, .bool false, .string ⟨#[]⟩, .string ⟨#[]⟩, .slice none 0 0, .string ⟨#[]⟩, .bool false, .int .i64 0, .int .i64 0, .int .i64 0, .string ⟨#[]⟩, .slice none 0 0, .slice none 0 0, .bool false, .string ⟨#[]⟩, .slice none 0 0, .int .i64 0, .slice none 0 0, .string ⟨#[]⟩, .bool false] (wk.toNat * 26)) 120))
        try replace hW := hW.fr ((Fr.refl No _).alloc (.cells (madeCells #[.int .i64 0, .int .i64 0, .int .i64 0, .string ⟨#[]⟩, .string ⟨#[]⟩, .slice none 0 0, .string ⟨#[]⟩, .bool false, .string ⟨#[]⟩, .string ⟨#[]⟩, .slice none 0 0, .string ⟨#[]⟩, .bool false, .int .i64 0, .int .i64 0, .int .i64 0, .string ⟨#[]⟩, .slice none 0 0, .slice none 0 0, .bool false, .string ⟨#[]⟩, .slice none 0 0, .int .i64 0, .slice none 0 0, .string ⟨#[]⟩, .bool false] (wk.toNat * 26)) 120))
        try replace hQ := hQ.fr ((Fr.refl No _).alloc (.cells (madeCells #[.int .i64 0, .int .i64 0, .int .i64 0, .string ⟨#[]⟩, .string ⟨#[]⟩, .slice none 0 0, .string ⟨#[]⟩, .bool false, .string ⟨#[]⟩, .string ⟨#[]⟩, .slice none 0 0, .string ⟨#[]⟩, .bool false, .int .i64 0, .int .i64 0, .int .i64 0, .string ⟨#[]⟩, .slice none 0 0, .slice none 0 0, .bool false, .string ⟨#[]⟩, .slice none 0 0, .int .i64 0, .slice none 0 0, .string ⟨#[]⟩, .bool false] (wk.toNat * 26)) 120))
        try replace hc9' := hc9'.alloc (.cells (madeCells #[.int .i64 0, .int .i64 0, .int .i64 0, .string ⟨#[]⟩, .string ⟨#[]⟩, .slice none 0 0, .string ⟨#[]⟩, .bool false, .string ⟨#[]⟩, .string ⟨#[]⟩, .slice none 0 0, .string ⟨#[]⟩, .bool false, .int .i64 0, .int .i64 0, .int .i64 0, .string ⟨#[]⟩, .slice none 0 0, .slice none 0 0, .bool false, .string ⟨#[]⟩, .slice none 0 0, .int .i64 0, .slice none 0 0, .string ⟨#[]⟩, .bool false] (wk.toNat * 26)) 120)
        try simp only [Act.put, List.setIfInBounds_toArray, List.set_cons_zero, List.set_cons_succ]
        refine u_two (by rfl) (by rfl) (fun K hK => ?_) (fun K hK => ?_)
        · go_simp
          refine hK _ _ ?hq ?_
          case hq => exact (Fr.refl _ _).alloc _
          have hN := netNew_at hcur
          replace hcur := hcur.alloc (.cells #[.slice none 0 0, .slice none 0 0] 56)
          try replace hW := hW.fr ((Fr.refl No _).alloc (.cells #[.slice none 0 0, .slice none 0 0] 56))
          try replace hQ := hQ.fr ((Fr.refl No _).alloc (.cells #[.slice none 0 0, .slice none 0 0] 56))
          try replace hWk := hWk.fr ((Fr.refl No _).alloc (.cells #[.slice none 0 0, .slice none 0 0] 56))
          try replace hc9' := hc9'.alloc (.cells #[.slice none 0 0, .slice none 0 0] 56)
          try simp only [Act.put, List.setIfInBounds_toArray, List.set_cons_zero, List.set_cons_succ]
          refine u_does (by rfl) (fun K hK => ?_)
          go_simp
          refine (queueNew_any _ c.jobs).mono (Hid.out ?_)
          refine Lib.hid ?_
          rintro e w11 ⟨gq, rq, nq, rfl, hq1, hq2, hq3, hq4, hq5, hf11⟩
          refine hK _ _ hf11 ?_
          have hQ : QueueNew w8.heap.size w11 gq c.jobs := ⟨rq, nq, Nat.le_trans hcur.size hq1, Nat.le_trans hcur.size hq2, hq3, hq4, hq5⟩
          clear hq1 hq2 hq3 hq4 hq5
          replace hcur := hcur.trans hf11 (fun _ _ h => h)
          try replace hN := hN.fr hf11
          try replace hW := hW.fr hf11
          try replace hWk := hWk.fr hf11
          try simp only [Act.put, List.setIfInBounds_toArray, List.set_cons_zero, List.set_cons_succ]
          refine u_reads ?_ (by rfl) (fun w' hR => ?_) ?_
          rotate_left
          · (go_simp; try with_reducible rfl)
          simp only [Act.put, List.setIfInBounds_toArray, List.set_cons_zero, List.set_cons_succ]
          refine u_does (by rfl) (fun K hK => ?_)
          go_simp
          have hs := (hf08.trans hcur (fun _ _ h => h)).size
          refine hK _ _ ?hq ?_
          case hq => exact (Fr.refl _ _).alloc _
          try simp only [Act.put, List.setIfInBounds_toArray, List.set_cons_zero, List.set_cons_succ]
          refine u_reads ?_ (by rfl) (fun w' hR => ?_) ?_
          rotate_left
          · (go_simp; try with_reducible rfl)
          simp only [Act.put, List.setIfInBounds_toArray, List.set_cons_zero, List.set_cons_succ]
          refine u_end ?_
          go_wp2_with fail
          go_ret
          try simp only [World.size_alloc, drew_size] at hs
          try simp only [World.size_alloc, drew_size] at hWk
          try simp only [World.size_alloc, drew_size] at hN
          refine srvNew_mk HEk0.out HEwk.out HEk4.out HEk5.out rfl (blk_new_at ?h0 _ _) ?h1 hgc hN hW hQ hWk (hf08.trans hcur (fun _ _ h => h))
          case h0 => simp
          case h1 => omega
        · go_simp
          refine (queueNew_any _ c.jobs).mono (Hid.out ?_)
          refine Lib.hid ?_
          rintro e w11 ⟨gq, rq, nq, rfl, hq1, hq2, hq3, hq4, hq5, hf11⟩
          refine hK _ _ hf11 ?_
          have hQ : QueueNew w8.heap.size w11 gq c.jobs := ⟨rq, nq, Nat.le_trans hcur.size hq1, Nat.le_trans hcur.size hq2, hq3, hq4, hq5⟩
          clear hq1 hq2 hq3 hq4 hq5
          replace hcur := hcur.trans hf11 (fun _ _ h => h)
          try replace hN := hN.fr hf11
          try replace hW := hW.fr hf11
          try replace hWk := hWk.fr hf11
          try simp only [Act.put, List.setIfInBounds_toArray, List.set_cons_zero, List.set_cons_succ]
          refine u_does (by rfl) (fun K hK => ?_)
          go_simp
          refine hK _ _ ?hq ?_
          case hq => exact (Fr.refl _ _).alloc _
          have hN := netNew_at hcur
          replace hcur := hcur.alloc (.cells #[.slice none 0 0, .slice none 0 0] 56)
          try replace hW := hW.fr ((Fr.refl No _).alloc (.cells #[.slice none 0 0, .slice none 0 0] 56))
          try replace hQ := hQ.fr ((Fr.refl No _).alloc (.cells #[.slice none 0 0, .slice none 0 0] 56))
          try replace hWk := hWk.fr ((Fr.refl No _).alloc (.cells #[.slice none 0 0, .slice none 0 0] 56))
          try replace hc9' := hc9'.alloc (.cells #[.slice none 0 0, .slice none 0 0] 56)
          try simp only [Act.put, List.setIfInBounds_toArray, List.set_cons_zero, List.set_cons_succ]
          refine u_reads ?_ (by rfl) (fun w' hR => ?_) ?_
          rotate_left
          · (go_simp; try with_reducible rfl)
          simp only [Act.put, List.setIfInBounds_toArray, List.set_cons_zero, List.set_cons_succ]
          refine u_does (by rfl) (fun K hK => ?_)
          go_simp
          have hs := (hf08.trans hcur (fun _ _ h => h)).size
          refine hK _ _ ?hq ?_
          case hq => exact (Fr.refl _ _).alloc _
          try simp only [Act.put, List.setIfInBounds_toArray, List.set_cons_zero, List.set_cons_succ]
          refine u_reads ?_ (by rfl) (fun w' hR => ?_) ?_
          rotate_left
          · (go_simp; try with_reducible rfl)
          simp only [Act.put, List.setIfInBounds_toArray, List.set_cons_zero, List.set_cons_succ]
          refine u_end ?_
          go_wp2_with fail
          go_ret
          try simp only [World.size_alloc, drew_size] at hs
          try simp only [World.size_alloc, drew_size] at hWk
          try simp only [World.size_alloc, drew_size] at hN
          refine srvNew_mk HEk0.out HEwk.out HEk4.out HEk5.out rfl (blk_new_at ?h0 _ _) ?h1 hgc hN hW hQ hWk (hf08.trans hcur (fun _ _ h => h))
          case h0 => simp
          case h1 => omega
    · go_simp
      refine hK _ _ ?hq ?_
      case hq => exact (Fr.refl _ _).alloc _
      have hWk := workNew_at hcur wk.toNat
      replace hcur := hcur.alloc (.cells (madeCells #[.int .i64 0, .int .i64 0, .int .i64 0, .string ⟨#[]⟩, .string ⟨#[]⟩, .slice none 0 0, .string ⟨#[]⟩, .bool false, .string ⟨#[]⟩, .string ⟨#[]⟩, .slice none 0 0, .string ⟨#[]⟩, .bool false, .int .i64 0, .int .i64 0, .int .i64 0, .string ⟨#[]⟩, .slice none 0 0, .slice none 0 0, .bool false, .string ⟨#[]⟩, .slice none 0 0, .int .i64 0, .slice none 0 0, .string ⟨#[]⟩, .bool false] (wk.toNat * 26)) 120)
      try replace hN := hN.fr ((Fr.refl No _).alloc (.cells (madeCells #[.int .i64 0, .int .i64 0, .int .i64 0, .string ⟨#[]⟩, .string ⟨#[]⟩, .slice none 0 0, .string ⟨#[]⟩, .bool false, .string ⟨#[]⟩, .string ⟨#[]⟩, .slice none 0 0, .string ⟨#[]⟩, .bool false, .int .i64 0, .int .i64 0, .int .i64 0, .string ⟨#[]⟩, .slice none 0 0, .slice none 0 0, .bool false, .string ⟨#[]⟩, .slice none 0 0, .int .i64 0, .slice none 0 0, .string ⟨#[]⟩, .bool false] (wk.toNat * 26)) 120))
      try replace hW := hW.fr ((Fr.refl No _).alloc (.cells (madeCells #[.int .i64 0, .int .i64 0, .int .i64 0, .string ⟨#[]⟩, .string ⟨#[]⟩, .slice none 0 0, .string ⟨#[]⟩, .bool false, .string ⟨#[]⟩, .string ⟨#[]⟩, .slice none 0 0, .string ⟨#[]⟩, .bool false, .int .i64 0, .int .i64 0, .int .i64 0, .string ⟨#[]⟩, .slice none 0 0, .slice none 0 0, .bool false, .string ⟨#[]⟩, .slice none 0 0, .int .i64 0, .slice none 0 0, .string ⟨#[]⟩, .bool false] (wk.toNat * 26)) 120))
      try replace hQ := hQ.fr ((Fr.refl No _).alloc (.cells (madeCells #[.int .i64 0, .int .i64 0, .int .i64 0, .string ⟨#[]⟩, .string ⟨#[]⟩, .slice none 0 0, .string ⟨#[]⟩, .bool false, .string ⟨#[]⟩, .string ⟨#[]⟩, .slice none 0 0, .string ⟨#[]⟩, .bool false, .int .i64 0, .int .i64 0, .int .i64 0, .string ⟨#[]⟩, .slice none 0 0, .slice none 0 0, .bool false, .string ⟨#[]⟩, .slice none 0 0, .int .i64 0, .slice none 0 0, .string ⟨#[]⟩, .bool false] (wk.toNat * 26)) 120))
      try replace hc9' := hc9'.alloc (.cells (madeCells #[.int .i64 0, .int .i64 0, .int .i64 0, .string ⟨#[]⟩, .string ⟨#[]⟩, .slice none 0 0, .string ⟨#[]⟩, .bool false, .string ⟨#[]⟩, .string ⟨#[]⟩, .slice none 0 0, .string ⟨#[]⟩, .bool false, .int .i64 0, .int .i64 0, .int .i64 0, .string ⟨#[]⟩, .slice none 0 0, .slice none 0 0, .bool false, .string ⟨#[]⟩, .slice none 0 0, .int .i64 0, .slice none 0 0, .string ⟨#[]⟩, .bool false] (wk.toNat * 26)) 120)
      try simp only [Act.put, List.setIfInBounds_toArray, List.set_cons_zero, List.set_cons_succ]
      refine u_two (by rfl) (by rfl) (fun K hK => ?_) (fun K hK => ?_)
      · go_simp
        refine hK _ _ ?hq ?_
        case hq => exact (Fr.refl _ _).alloc _
        have hN := netNew_at hcur
        replace hcur := hcur.alloc (.cells #[.slice none 0 0, .slice none 0 0] 56)
        try replace hW := hW.fr ((Fr.refl No _).alloc (.cells #[.slice none 0 0, .slice none 0 0] 56))
        try replace hQ := hQ.fr ((Fr.refl No _).alloc (.cells #[.slice none 0 0, .slice none 0 0] 56))
        try replace hWk := hWk.fr ((Fr.refl No _).alloc (.cells #[.slice none 0 0, .slice none 0 0] 56))
        try replace hc9' := hc9'.alloc (.cells #[.slice none 0 0, .slice none 0 0] 56)
        try simp only [Act.put, List.setIfInBounds_toArray, List.set_cons_zero, List.set_cons_succ]
        refine u_does (by rfl) (fun K hK => ?_)
        go_simp
        refine (handleNew_any _ _ (HHw.out _ hcur) c.token A9 c9 FR (hr9.fr hc9' (fun _ _ h => h)) hlen8 hsm8).mono (Hid.out ?_)
        refine Lib.hid ?_
        rintro e w10 ⟨gw, rfl, hgw, hf10⟩
        refine hK _ _ hf10 ?_
        have hW := hgw.base hcur.size
        clear hgw
        replace hcur := hcur.trans hf10 (fun _ _ h => h)
        try replace hN := hN.fr hf10
        try replace hQ := hQ.fr hf10
        try replace hWk := hWk.fr hf10
        try simp only [Act.put, List.setIfInBounds_toArray, List.set_cons_zero, List.set_cons_succ]
        refine u_does (by rfl) (fun K hK => ?_)
        go_simp
        refine (queueNew_any _ c.jobs).mono (Hid.out ?_)
        refine Lib.hid ?_
        rintro e w11 ⟨gq, rq, nq, rfl, hq1, hq2, hq3, hq4, hq5, hf11⟩
        refine hK _ _ hf11 ?_
        have hQ : QueueNew w8.heap.size w11 gq c.jobs := ⟨rq, nq, Nat.le_trans hcur.size hq1, Nat.le_trans hcur.size hq2, hq3, hq4, hq5⟩
        clear hq1 hq2 hq3 hq4 hq5
        replace hcur := hcur.trans hf11 (fun _ _ h => h)
        try replace hN := hN.fr hf11
        try replace hW := hW.fr hf11
        try replace hWk := hWk.fr hf11
        try simp only [Act.put, List.setIfInBounds_toArray, List.set_cons_zero, List.set_cons_succ]
        refine u_reads ?_ (by rfl) (fun w' hR => ?_) ?_
        rotate_left
        · (go_simp; try with_reducible rfl)
        simp only [Act.put, List.setIfInBounds_toArray, List.set_cons_zero, List.set_cons_succ]
        refine u_does (by rfl) (fun K hK => ?_)
        go_simp
        have hs := (hf08.trans hcur (fun _ _ h => h)).size
        refine hK _ _ ?hq ?_
        case hq => exact (Fr.refl _ _).alloc _
        try simp only [Act.put, List.setIfInBounds_toArray, List.set_cons_zero, List.set_cons_succ]
        refine u_reads ?_ (by rfl) (fun w' hR => ?_) ?_
        rotate_left
        · (go_simp; try with_reducible rfl)
        simp only [Act.put, List.setIfInBounds_toArray, List.set_cons_zero, List.set_cons_succ]
        refine u_end ?_
        go_wp2_with fail
        go_ret
        try simp only [World.size_alloc, drew_size] at hs
        try simp only [World.size_alloc, drew_size] at hWk
        try simp only [World.size_alloc, drew_size] at hN
        refine srvNew_mk HEk0.out HEwk.out HEk4.out HEk5.out rfl (blk_new_at ?h0 _ _) ?h1 hgc hN hW hQ hWk (hf08.trans hcur (fun _ _ h => h))
        case h0 => simp
        case h1 => omega
      · go_simp
        refine (handleNew_any _ _ (HHw.out _ hcur) c.token A9 c9 FR (hr9.fr hc9' (fun _ _ h => h)) hlen8 hsm8).mono (Hid.out ?_)
        refine Lib.hid ?_
        rintro e w10 ⟨gw, rfl, hgw, hf10⟩
        refine hK _ _ hf10 ?_
        have hW := hgw.base hcur.size
        clear hgw
        replace hcur := hcur.trans hf10 (fun _ _ h => h)
        try replace hN := hN.fr hf10
        try replace hQ := hQ.fr hf10
        try replace hWk := hWk.fr hf10
        try simp only [Act.put, List.setIfInBounds_toArray, List.set_cons_zero, List.set_cons_succ]
        refine u_two (by rfl) (by rfl) (fun K hK => ?_) (fun K hK => ?_)
        · go_simp
          refine hK _ _ ?hq ?_
          case hq => exact (Fr.refl _ _).alloc _
          have hN := netNew_at hcur
          replace hcur := hcur.alloc (.cells #[.slice none 0 0, .slice none 0 0] 56)
          try replace hW := hW.fr ((Fr.refl No _).alloc (.cells #[.slice none 0 0, .slice none 0 0] 56))
          try replace hQ := hQ.fr ((Fr.refl No _).alloc (.cells #[.slice none 0 0, .slice none 0 0] 56))
          try replace hWk := hWk.fr ((Fr.refl No _).alloc (.cells #[.slice none 0 0, .slice none 0 0] 56))
          try replace hc9' := hc9'.alloc (.cells #[.slice none 0 0, .slice none 0 0] 56)
          try simp only [Act.put, List.setIfInBounds_toArray, List.set_cons_zero, List.set_cons_succ]
          refine u_does (by rfl) (fun K hK => ?_)
          go_simp
          refine (queueNew_any _ c.jobs).mono (Hid.out ?_)
          refine Lib.hid ?_
          rintro e w11 ⟨gq, rq, nq, rfl, hq1, hq2, hq3, hq4, hq5, hf11⟩
          refine hK _ _ hf11 ?_
          have hQ : QueueNew w8.heap.size w11 gq c.jobs := ⟨rq, nq, Nat.le_trans hcur.size hq1, Nat.le_trans hcur.size hq2, hq3, hq4, hq5⟩
          clear hq1 hq2 hq3 hq4 hq5
          replace hcur := hcur.trans hf11 (fun _ _ h => h)
          try replace hN := hN.fr hf11
          try replace hW := hW.fr hf11
          try replace hWk := hWk.fr hf11
          try simp only [Act.put, List.setIfInBounds_toArray, List.set_cons_zero, List.set_cons_succ]
          refine u_reads ?_ (by rfl) (fun w' hR => ?_) ?_
          rotate_left
          · (go_simp; try with_reducible rfl)
          simp only [Act.put, List.setIfInBounds_toArray, List.set_cons_zero, List.set_cons_succ]
          refine u_does (by rfl) (fun K hK => ?_)
          go_simp
          have hs := (hf08.trans hcur (fun _ _ h => h)).size
          refine hK _ _ ?hq ?_
          case hq => exact (Fr.refl _ _).alloc _
          try simp only [Act.put, List.setIfInBounds_toArray, List.set_cons_zero, List.set_cons_succ]
          refine u_reads ?_ (by rfl) (fun w' hR => ?_) ?_
          rotate_left
          · (go_simp; try with_reducible rfl)
          simp only [Act.put, List.setIfInBounds_toArray, List.set_cons_zero, List.set_cons_succ]
          refine u_end ?_
          go_wp2_with fail
          go_ret
          try simp only [World.size_alloc, drew_size] at hs
          try simp only [World.size_alloc, drew_size] at hWk
          try simp only [World.size_alloc, drew_size] at hN
          refine srvNew_mk HEk0.out HEwk.out HEk4.out HEk5.out rfl (blk_new_at ?h0 _ _) ?h1 hgc hN hW hQ hWk (hf08.trans hcur (fun _ _ h => h))
          case h0 => simp
          case h1 => omega
        · go_simp
          refine (queueNew_any _ c.jobs).mono (Hid.out ?_)
          refine Lib.hid ?_
          rintro e w11 ⟨gq, rq, nq, rfl, hq1, hq2, hq3, hq4, hq5, hf11⟩
          refine hK _ _ hf11 ?_
          have hQ : QueueNew w8.heap.size w11 gq c.jobs := ⟨rq, nq, Nat.le_trans hcur.size hq1, Nat.le_trans hcur.size hq2, hq3, hq4, hq5⟩
          clear hq1 hq2 hq3 hq4 hq5
          replace hcur := hcur.trans hf11 (fun _ _ h => h)
          try replace hN := hN.fr hf11
          try replace hW := hW.fr hf11
          try replace hWk := hWk.fr hf11
          try simp only [Act.put, List.setIfInBounds_toArray, List.set_cons_zero, List.set_cons_succ]
          refine u_does (by rfl) (fun K hK => ?_)
          go_simp
          refine hK _ _ ?hq ?_
          case hq => exact (Fr.refl _ _).alloc _
          have hN := netNew_at hcur
          replace hcur := hcur.alloc (.cells #[.slice none 0 0, .slice none 0 0] 56)
          try replace hW := hW.fr ((Fr.refl No _).alloc (.cells #[.slice none 0 0, .slice none 0 0] 56))
          try replace hQ := hQ.fr ((Fr.refl No _).alloc (.cells #[.slice none 0 0, .slice none 0 0] 56))
          try replace hWk := hWk.fr ((Fr.refl No _).alloc (.cells #[.slice none 0 0, .slice none 0 0] 56))
          try replace hc9' := hc9'.alloc (.cells #[.slice none 0 0, .slice none 0 0] 56)
          try simp only [Act.put, List.setIfInBounds_toArray, List.set_cons_zero, List.set_cons_succ]
          refine u_reads ?_ (by rfl) (fun w' hR => ?_) ?_
          rotate_left
          · (go_simp; try with_reducible rfl)
          simp only [Act.put, List.setIfInBounds_toArray, List.set_cons_zero, List.set_cons_succ]
          refine u_does (by rfl) (fun K hK => ?_)
          go_simp
          have hs := (hf08.trans hcur (fun _ _ h => h)).size
          refine hK _ _ ?hq ?_
          case hq => exact (Fr.refl _ _).alloc _
          try simp only [Act.put, List.setIfInBounds_toArray, List.set_cons_zero, List.set_cons_succ]
          refine u_reads ?_ (by rfl) (fun w' hR => ?_) ?_
          rotate_left
          · (go_simp; try with_reducible rfl)
          simp only [Act.put, List.setIfInBounds_toArray, List.set_cons_zero, List.set_cons_succ]
          refine u_end ?_
          go_wp2_with fail
          go_ret
          try simp only [World.size_alloc, drew_size] at hs
          try simp only [World.size_alloc, drew_size] at hWk
          try simp only [World.size_alloc, drew_size] at hN
          refine srvNew_mk HEk0.out HEwk.out HEk4.out HEk5.out rfl (blk_new_at ?h0 _ _) ?h1 hgc hN hW hQ hWk (hf08.trans hcur (fun _ _ h => h))
          case h0 => simp
          case h1 => omega
  · go_simp
    refine hK _ _ ?hq ?_
    case hq => exact (Fr.refl _ _).alloc _
    have hWk := workNew_at hcur wk.toNat
    replace hcur := hcur.alloc (.cells (madeCells #[.int .i64 0, .int .i64 0, .int .i64 0, .string ⟨#[]⟩, .string ⟨#[]⟩, .slice none 0 0, .string ⟨#[]⟩, .bool false, .string ⟨#[]⟩, .string ⟨#[]⟩, .slice none 0 0, .string ⟨#[]⟩, .bool false, .int .i64 0, .int .i64 0, .int .i64 0, .string ⟨#[]⟩, .slice none 0 0, .slice none 0 0, .bool false, .string ⟨#[]⟩, .slice none 0 0, .int .i64 0, .slice none 0 0, .string ⟨#[]⟩, .bool false] (wk.toNat * 26)) 120)
    try replace hN := hN.fr ((Fr.refl No _).alloc (.cells (madeCells #[.int .i64 0, .int .i64 0, .int .i64 0, .string ⟨#[]⟩, .string ⟨#[]⟩, .slice none 0 0, .string ⟨#[]⟩, .bool false, .string ⟨#[]⟩, .string ⟨#[]⟩, .slice none 0 0, .string ⟨#[]⟩, .bool false, .int .i64 0, .int .i64 0, .int .i64 0, .string ⟨#[]⟩, .slice none 0 0, .slice none 0 0, .bool false, .string ⟨#[]⟩, .slice none 0 0, .int .i64 0, .slice none 0 0, .string ⟨#[]⟩, .bool false] (wk.toNat * 26)) 120))
    try replace hW := hW.fr ((Fr.refl No _).alloc (.cells (madeCells #[.int .i64 0, .int .i64 0, .int .i64 0, .string ⟨#[]⟩, .string ⟨#[]⟩, .slice none 0 0, .string ⟨#[]⟩, .bool false, .string ⟨#[]⟩, .string ⟨#[]⟩, .slice none 0 0, .string ⟨#[]⟩, .bool false, .int .i64 0, .int .i64 0, .int .i64 0, .string ⟨#[]⟩, .slice none 0 0, .slice none 0 0, .bool false, .string ⟨#[]⟩, .slice none 0 0, .int .i64 0, .slice none 0 0, .string ⟨#[]⟩, .bool false] (wk.toNat * 26)) 120))
    try replace hQ := hQ.fr ((Fr.refl No _).alloc (.cells (madeCells #[.int .i64 0, .int .i64 0, .int .i64 0, .string ⟨#[]⟩, .string ⟨#[]⟩, .slice none 0 0, .string ⟨#[]⟩, .bool false, .string ⟨#[]⟩, .string ⟨#[]⟩, .slice none 0 0, .string ⟨#[]⟩, .bool false, .int .i64 0, .int .i64 0, .int .i64 0, .string ⟨#[]⟩, .slice none 0 0, .slice none 0 0, .bool false, .string ⟨#[]⟩, .slice none 0 0, .int .i64 0, .slice none 0 0, .string ⟨#[]⟩, .bool false] (wk.toNat * 26)) 120))
    try replace hc9' := hc9'.alloc (.cells (madeCells #[.int .i64 0, .int .i64 0, .int .i64 0, .string ⟨#[]⟩, .string ⟨#[]⟩, .slice none 0 0, .string ⟨#[]⟩, .bool false, .string ⟨#[]⟩, .string ⟨#[]⟩, .slice none 0 0, .string ⟨#[]⟩, .bool false, .int .i64 0, .int .i64 0, .int .i64 0, .string ⟨#[]⟩, .slice none 0 0, .slice none 0 0, .bool false, .string ⟨#[]⟩, .slice none 0 0, .int .i64 0, .slice none 0 0, .string ⟨#[]⟩, .bool false] (wk.toNat * 26)) 120)
    try simp only [Act.put, List.setIfInBounds_toArray, List.set_cons_zero, List.set_cons_succ]
    refine u_two (by rfl) (by rfl) (fun K hK => ?_) (fun K hK => ?_)
    · go_simp
      refine hK _ _ ?hq ?_
      case hq => exact (Fr.refl _ _).alloc _
      have hN := netNew_at hcur
      replace hcur := hcur.alloc (.cells #[.slice none 0 0, .slice none 0 0] 56)
      try replace hW := hW.fr ((Fr.refl No _).alloc (.cells #[.slice none 0 0, .slice none 0 0] 56))
      try replace hQ := hQ.fr ((Fr.refl No _).alloc (.cells #[.slice none 0 0, .slice none 0 0] 56))
      try replace hWk := hWk.fr ((Fr.refl No _).alloc (.cells #[.slice none 0 0, .slice none 0 0] 56))
      try replace hc9' := hc9'.alloc (.cells #[.slice none 0 0, .slice none 0 0] 56)
      try simp only [Act.put, List.setIfInBounds_toArray, List.set_cons_zero, List.set_cons_succ]
      refine u_does (by rfl) (fun K hK => ?_)
      go_simp
      refine (HFi.out _ (HHw.out _ hcur)).mono (Hid.out ?_)
      refine Lib.hid ?_
      rintro e w9 ⟨v9, rfl, hown9, hf9⟩
      obtain ⟨A9, c9, rfl, hc9, hr9⟩ := own_form hown9
      refine hK _ _ hf9 ?_
      replace hcur := hcur.trans hf9 (fun _ _ h => h)
      have hc9' := Fr.refl No w9
      try replace hN := hN.fr hf9
      try replace hW := hW.fr hf9
      try replace hQ := hQ.fr hf9
      try replace hWk := hWk.fr hf9
      try simp only [Act.put, List.setIfInBounds_toArray, List.set_cons_zero, List.set_cons_succ]
      refine u_does (by rfl) (fun K hK => ?_)
      go_simp
      refine (handleNew_any _ _ (HHw.out _ hcur) c.token A9 c9 FR (hr9.fr hc9' (fun _ _ h => h)) hlen8 hsm8).mono (Hid.out ?_)
      refine Lib.hid ?_
      rintro e w10 ⟨gw, rfl, hgw, hf10⟩
      refine hK _ _ hf10 ?_
      have hW := hgw.base hcur.size
      clear hgw
      replace hcur := hcur.trans hf10 (fun _ _ h => h)
      try replace hN := hN.fr hf10
      try replace hQ := hQ.fr hf10
      try replace hWk := hWk.fr hf10
      try simp only [Act.put, List.setIfInBounds_toArray, List.set_cons_zero, List.set_cons_succ]
      refine u_does (by rfl) (fun K hK => ?_)
      go_simp
      refine (queueNew_any _ c.jobs).mono (Hid.out ?_)
      refine Lib.hid ?_
      rintro e w11 ⟨gq, rq, nq, rfl, hq1, hq2, hq3, hq4, hq5, hf11⟩
      refine hK _ _ hf11 ?_
      have hQ : QueueNew w8.heap.size w11 gq c.jobs := ⟨rq, nq, Nat.le_trans hcur.size hq1, Nat.le_trans hcur.size hq2, hq3, hq4, hq5⟩
      clear hq1 hq2 hq3 hq4 hq5
      replace hcur := hcur.trans hf11 (fun _ _ h => h)
      try replace hN := hN.fr hf11
      try replace hW := hW.fr hf11
      try replace hWk := hWk.fr hf11
      try simp only [Act.put, List.setIfInBounds_toArray, List.set_cons_zero, List.set_cons_succ]
      refine u_reads ?_ (by rfl) (fun w' hR => ?_) ?_
      rotate_left
      · (go_simp; try with_reducible rfl)
      simp only [Act.put, List.setIfInBounds_toArray, List.set_cons_zero, List.set_cons_succ]
      refine u_does (by rfl) (fun K hK => ?_)
      go_simp
      have hs := (hf08.trans hcur (fun _ _ h => h)).size
      refine hK _ _ ?hq ?_
      case hq => exact (Fr.refl _ _).alloc _
      try simp only [Act.put, List.setIfInBounds_toArray, List.set_cons_zero, List.set_cons_succ]
      refine u_reads ?_ (by rfl) (fun w' hR => ?_) ?_
      rotate_left
      · (go_simp; try with_reducible rfl)
      simp only [Act.put, List.setIfInBounds_toArray, List.set_cons_zero, List.set_cons_succ]
      refine u_end ?_
      go_wp2_with fail
      go_ret
      try simp only [World.size_alloc, drew_size] at hs
      try simp only [World.size_alloc, drew_size] at hWk
      try simp only [World.size_alloc, drew_size] at hN
      refine srvNew_mk HEk0.out HEwk.out HEk4.out HEk5.out rfl (blk_new_at ?h0 _ _) ?h1 hgc hN hW hQ hWk (hf08.trans hcur (fun _ _ h => h))
      case h0 => simp
      case h1 => omega
    · go_simp
      refine (HFi.out _ (HHw.out _ hcur)).mono (Hid.out ?_)
      refine Lib.hid ?_
      rintro e w9 ⟨v9, rfl, hown9, hf9⟩
      obtain ⟨A9, c9, rfl, hc9, hr9⟩ := own_form hown9
      refine hK _ _ hf9 ?_
      replace hcur := hcur.trans hf9 (fun _ _ h => h)
      have hc9' := Fr.refl No w9
      try replace hN := hN.fr hf9
      try replace hW := hW.fr hf9
      try replace hQ := hQ.fr hf9
      try replace hWk := hWk.fr hf9
      try simp only [Act.put, List.setIfInBounds_toArray, List.set_cons_zero, List.set_cons_succ]
      refine u_two (by rfl) (by rfl) (fun K hK => ?_) (fun K hK => ?_)
      · go_simp
        refine hK _ _ ?hq ?_
        case hq => exact (Fr.refl _ _).alloc _
        have hN := netNew_at hcur
        replace hcur := hcur.alloc (.cells #[.slice none 0 0, .slice none 0 0] 56)
        try replace hW := hW.fr ((Fr.refl No _).alloc (.cells #[.slice none 0 0, .slice none 0 0] 56))
        try replace hQ := hQ.fr ((Fr.refl No _).alloc (.cells #[.slice none 0 0, .slice none 0 0] 56))
        try replace hWk := hWk.fr ((Fr.refl No _).alloc (.cells #[.slice none 0 0, .slice none 0 0] 56))
        try replace hc9' := hc9'.alloc (.cells #[.slice none 0 0, .slice none 0 0] 56)
        try simp only [Act.put, List.setIfInBounds_toArray, List.set_cons_zero, List.set_cons_succ]
        refine u_does (by rfl) (fun K hK => ?_)
        go_simp
        refine (handleNew_any _ _ (HHw.out _ hcur) c.token A9 c9 FR (hr9.fr hc9' (fun _ _ h => h)) hlen8 hsm8).mono (Hid.out ?_)
        refine Lib.hid ?_
        rintro e w10 ⟨gw, rfl, hgw, hf10⟩
        refine hK _ _ hf10 ?_
        have hW := hgw.base hcur.size
        clear hgw
        replace hcur := hcur.trans hf10 (fun _ _ h => h)
        try replace hN := hN.fr hf10
        try replace hQ := hQ.fr hf10
        try replace hWk := hWk.fr hf10
        try simp only [Act.put, List.setIfInBounds_toArray, List.set_cons_zero, List.set_cons_succ]
        refine u_does (by rfl) (fun K hK => ?_)
        go_simp
        refine (queueNew_any _ c.jobs).mono (Hid.out ?_)
        refine Lib.hid ?_
        rintro e w11 ⟨gq, rq, nq, rfl, hq1, hq2, hq3, hq4, hq5, hf11⟩
        refine hK _ _ hf11 ?_
        have hQ : QueueNew w8.heap.size w11 gq c.jobs := ⟨rq, nq, Nat.le_trans hcur.size hq1, Nat.le_trans hcur.size hq2, hq3, hq4, hq5⟩
        clear hq1 hq2 hq3 hq4 hq5
        replace hcur := hcur.trans hf11 (fun _ _ h => h)
        try replace hN := hN.fr hf11
        try replace hW := hW.fr hf11
        try replace hWk := hWk.fr hf11
        try simp only [Act.put, List.setIfInBounds_toArray, List.set_cons_zero, List.set_cons_succ]
        refine u_reads ?_ (by rfl) (fun w' hR => ?_) ?_
        rotate_left
        · (go_simp; try with_reducible rfl)
        simp only [Act.put, List.setIfInBounds_toArray, List.set_cons_zero, List.set_cons_succ]
        refine u_does (by rfl) (fun K hK => ?_)
        go_simp
        have hs := (hf08.trans hcur (fun _ _ h => h)).size
        refine hK _ _ ?hq ?_
        case hq => exact (Fr.refl _ _).alloc _
        try simp only [Act.put, List.setIfInBounds_toArray, List.set_cons_zero, List.set_cons_succ]
        refine u_reads ?_ (by rfl) (fun w' hR => ?_) ?_
        rotate_left
        · (go_simp; try with_reducible rfl)
        simp only [Act.put, List.setIfInBounds_toArray, List.set_cons_zero, List.set_cons_succ]
        refine u_end ?_
        go_wp2_with fail
        go_ret
        try simp only [World.size_alloc, drew_size] at hs
        try simp only [World.size_alloc, drew_size] at hWk
        try simp only [World.size_alloc, drew_size] at hN
        refine srvNew_mk HEk0.out HEwk.out HEk4.out HEk5.out rfl (blk_new_at ?h0 _ _) ?h1 hgc hN hW hQ hWk (hf08.trans hcur (fun _ _ h => h))
        case h0 => simp
        case h1 => omega
      · go_simp
        refine (handleNew_any _ _ (HHw.out _ hcur) c.token A9 c9 FR (hr9.fr hc9' (fun _ _ h => h)) hlen8 hsm8).mono (Hid.out ?_)
        refine Lib.hid ?_
        rintro e w10 ⟨gw, rfl, hgw, hf10⟩
        refine hK _ _ hf10 ?_
        have hW := hgw.base hcur.size
        clear hgw
        replace hcur := hcur.trans hf10 (fun _ _ h => h)
        try replace hN := hN.fr hf10
        try replace hQ := hQ.fr hf10
        try replace hWk := hWk.fr hf10
        try simp only [Act.put, List.setIfInBounds_toArray, List.set_cons_zero, List.set_cons_succ]
        refine u_two (by rfl) (by rfl) (fun K hK => ?_) (fun K hK => ?_)
        · go_simp
          refine hK _ _ ?hq ?_
          case hq => exact (Fr.refl _ _).alloc _
          have hN := netNew_at hcur
          replace hcur := hcur.alloc (.cells #[.slice none 0 0, .slice none 0 0] 56)
          try replace hW := hW.fr ((Fr.refl No _).alloc (.cells #[.slice none 0 0, .slice none 0 0] 56))
          try replace hQ := hQ.fr ((Fr.refl No _).alloc (.cells #[.slice none 0 0, .slice none 0 0] 56))
          try replace hWk := hWk.fr ((Fr.refl No _).alloc (.cells #[.slice none 0 0, .slice none 0 0] 56))
          try replace hc9' := hc9'.alloc (.cells #[.slice none 0 0, .slice none 0 0] 56)
          try simp only [Act.put, List.setIfInBounds_toArray, List.set_cons_zero, List.set_cons_succ]
          refine u_does (by rfl) (fun K hK => ?_)
          go_simp
          refine (queueNew_any _ c.jobs).mono (Hid.out ?_)
          refine Lib.hid ?_
          rintro e w11 ⟨gq, rq, nq, rfl, hq1, hq2, hq3, hq4, hq5, hf11⟩
          refine hK _ _ hf11 ?_
          have hQ : QueueNew w8.heap.size w11 gq c.jobs := ⟨rq, nq, Nat.le_trans hcur.size hq1, Nat.le_trans hcur.size hq2, hq3, hq4, hq5⟩
          clear hq1 hq2 hq3 hq4 hq5
          replace hcur := hcur.trans hf11 (fun _ _ h => h)
          try replace hN := hN.fr hf11
          try replace hW := hW.fr hf11
          try replace hWk := hWk.fr hf11
          try simp only [Act.put, List.setIfInBounds_toArray, List.set_cons_zero, List.set_cons_succ]
          refine u_reads ?_ (by rfl) (fun w' hR => ?_) ?_
          rotate_left
          · (go_simp; try with_reducible rfl)
          simp only [Act.put, List.setIfInBounds_toArray, List.set_cons_zero, List.set_cons_succ]
          refine u_does (by rfl) (fun K hK => ?_)
          go_simp
          have hs := (hf08.trans hcur (fun _ _ h => h)).size
          refine hK _ _ ?hq ?_
          case hq => exact (Fr.refl _ _).alloc _
          try simp only [Act.put, List.setIfInBounds_toArray, List.set_cons_zero, List.set_cons_succ]
          refine u_reads ?_ (by rfl) (fun w' hR => ?_) ?_
          rotate_left
          · (go_simp; try with_reducible rfl)
          simp only [Act.put, List.setIfInBounds_toArray, List.set_cons_zero, List.set_cons_succ]
          refine u_end ?_
          go_wp2_with fail
          go_ret
          try simp only [World.size_alloc, drew_size] at hs
          try simp only [World.size_alloc, drew_size] at hWk
          try simp only [World.size_alloc, drew_size] at hN
          refine srvNew_mk HEk0.out HEwk.out HEk4.out HEk5.out rfl (blk_new_at ?h0 _ _) ?h1 hgc hN hW hQ hWk (hf08.trans hcur (fun _ _ h => h))
          case h0 => simp
          case h1 => omega
        · go_simp
          refine (queueNew_any _ c.jobs).mono (Hid.out ?_)
          refine Lib.hid ?_
          rintro e w11 ⟨gq, rq, nq, rfl, hq1, hq2, hq3, hq4, hq5, hf11⟩
          refine hK _ _ hf11 ?_
          have hQ : QueueNew w8.heap.size w11 gq c.jobs := ⟨rq, nq, Nat.le_trans hcur.size hq1, Nat.le_trans hcur.size hq2, hq3, hq4, hq5⟩
          clear hq1 hq2 hq3 hq4 hq5
          replace hcur := hcur.trans hf11 (fun _ _ h => h)
          try replace hN := hN.fr hf11
          try replace hW := hW.fr hf11
          try replace hWk := hWk.fr hf11
          try simp only [Act.put, List.setIfInBounds_toArray, List.set_cons_zero, List.set_cons_succ]
          refine u_does (by rfl) (fun K hK => ?_)
          go_simp
          refine hK _ _ ?hq ?_
          case hq => exact (Fr.refl _ _).alloc _
          have hN := netNew_at hcur
          replace hcur := hcur.alloc (.cells #[.slice none 0 0, .slice none 0 0] 56)
          try replace hW := hW.fr ((Fr.refl No _).alloc (.cells #[.slice none 0 0, .slice none 0 0] 56))
          try replace hQ := hQ.fr ((Fr.refl No _).alloc (.cells #[.slice none 0 0, .slice none 0 0] 56))
          try replace hWk := hWk.fr ((Fr.refl No _).alloc (.cells #[.slice none 0 0, .slice none 0 0] 56))
          try replace hc9' := hc9'.alloc (.cells #[.slice none 0 0, .slice none 0 0] 56)
          try simp only [Act.put, List.setIfInBounds_toArray, List.set_cons_zero, List.set_cons_succ]
          refine u_reads ?_ (by rfl) (fun w' hR => ?_) ?_
          rotate_left
          · (go_simp; try with_reducible rfl)
          simp only [Act.put, List.setIfInBounds_toArray, List.set_cons_zero, List.set_cons_succ]
          refine u_does (by rfl) (fun K hK => ?_)
          go_simp
          have hs := (hf08.trans hcur (fun _ _ h => h)).size
          refine hK _ _ ?hq ?_
          case hq => exact (Fr.refl _ _).alloc _
          try simp only [Act.put, List.setIfInBounds_toArray, List.set_cons_zero, List.set_cons_succ]
          refine u_reads ?_ (by rfl) (fun w' hR => ?_) ?_
          rotate_left
          · (go_simp; try with_reducible rfl)
          simp only [Act.put, List.setIfInBounds_toArray, List.set_cons_zero, List.set_cons_succ]
          refine u_end ?_
          go_wp2_with fail
          go_ret
          try simp only [World.size_alloc, drew_size] at hs
          try simp only [World.size_alloc, drew_size] at hWk
          try simp only [World.size_alloc, drew_size] at hN
          refine srvNew_mk HEk0.out HEwk.out HEk4.out HEk5.out rfl (blk_new_at ?h0 _ _) ?h1 hgc hN hW hQ hWk (hf08.trans hcur (fun _ _ h => h))
          case h0 => simp
          case h1 => omega

/-- Less of it. -/
def NewSrv (w : World) (e : Ending) (w' : World) : Prop := ∃ g gN cs, e = .returned (.pointer (some ⟨g, 0, none⟩)) ∧ w.heap.size ≤ g ∧ w.heap.size ≤ gN ∧ ¬ gN = g ∧ Blk w' gN 56 #[.slice none 0 0, .slice none 0 0] ∧ Blk w' g 39 cs ∧
  cs[0]? = some (.pointer (some ⟨gN, 0, none⟩)) ∧ cs[10]? = some (.slice none 0 0) ∧ cs[12]? = some (.int .i64 0) ∧ cs[13]? = some (.int .i64 0) ∧ Fr No w w'
theorem serverNew_any (w : World) (hh : Hands w) (c : Cr.Cfg) :
    Calls Tryz.prog 7 #[.agg #[.int .i64 c.conns, .int .i64 c.jobs, .int .i64 c.workers, .int .i64 c.window, .int .i64 c.idle, .int .i64 c.drain, .string ⟨c.token.toArray⟩]] w fun e w' => NewSrv w e w' := by
  refine (serverNew_all w hh c).mono fun e w' h => ?_
  obtain ⟨g, gN, gW, gq, gk, he, hg, hN, _, _, _, hb, hf⟩ := h
  exact ⟨g, gN, _, he, hg, hN.1, hN.2.ne_ hb (by decide), hN.2, hb, rfl, rfl, rfl, rfl, hf⟩
end Go.Proofs.YthcbjeeajoliiaaGreatDoor
