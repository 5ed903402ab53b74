/- handle.New; server.New. -/
import Derived.Test.YthcbjeeajoliiaaGreatDoorT7
import Derived.Test.YthcbjeeajoliiaaGreatDoorR4
import Derived.Test.YthcbjeeajoliiaaGreatDoorR5
set_option linter.unusedVariables false
set_option linter.unusedSimpArgs false
namespace Go.Proofs.YthcbjeeajoliiaaGreatDoor
open Go.RowKit
open Cr (Str Rou)

set_option maxRecDepth 100000 in
theorem handleNew_any (Pl : Nat → Prop) (w : World) (hh : Hands w) (tok : Str) (A : Option Addr) (c : Nat) (l : List Rou) (hr : Rd Pl w A (rousV l)) (hl : l.length ≤ 1000) (hs : ∀ r ∈ l, rouSmall r) :
    Calls Tryz.prog 23 #[.string ⟨tok.toArray⟩, .slice A l.length c] w fun e w' => ∃ gw, e = .returned (.pointer (some ⟨gw, 0, none⟩)) ∧ w.heap.size ≤ gw ∧ Fr No w w' := by
  have HS := Lib.hid (fun W => storeNew_any W)
  have HH := Lib.hid (fun W (hf : Fr No w W) => holderNew_any Pl W (hh.fr hf id) A c l (hr.fr hf (fun _ _ h => h)) hl hs)
  clear hh hr hs
  go_enter Tryz.func23, Tryz.ntmps23
  go_wp2_with (go_at_call 42; refine (HS.out _).mono (Hid.out ?_))
  refine Lib.hid ?_
  rintro e w1 ⟨gs, m0, m1, m2, m3, rfl, hgs, hbs, hf1⟩
  go_wp2_with (go_at_call 43; refine (HH.out _ hf1).mono (Hid.out ?_))
  refine Lib.hid ?_
  rintro e w2 ⟨gh, gT, root, v, rfl, hgh, hgT, hbh, hbT, hn, hown, hf2⟩
  go_wp2_with fail
  go_ret
  have hf := hf1.trans hf2 (fun _ _ h => h)
  exact ⟨w2.heap.size, rfl, hf.size, hf.alloc _⟩

theorem firstRoutes_len : firstRoutes.length = 8 := by decide +kernel
theorem firstRoutes_small : ∀ r ∈ firstRoutes, rouSmall r := by
  have h : firstRoutes.all (fun r => decide (r.method.length ≤ 1000000) && decide (r.pattern.length ≤ 1000000) && decide (r.handler.length ≤ 1000000)) = true := by decide +kernel
  intro r hr
  have := List.all_eq_true.1 h r hr
  simp only [Bool.and_eq_true, decide_eq_true_eq] at this
  exact ⟨this.1.1, this.1.2, this.2⟩
theorem bringI_le (n m : Int) (hm : 1 ≤ m) : 1 ≤ bringI n m ∧ bringI n m ≤ m := by
  unfold bringI
  omega

theorem infoWorker : (Tryz.prog.info? 120).map (fun i => (i.zero, i.size, i.bytes)) = some (some (.agg #[.int .i64 0, .int .i64 0, .int .i64 0, .string ⟨#[]⟩, .string ⟨#[]⟩, .slice none 0 0, .string ⟨#[]⟩, .bool false, .string ⟨#[]⟩, .string ⟨#[]⟩, .slice none 0 0, .string ⟨#[]⟩, .bool false, .int .i64 0, .int .i64 0, .int .i64 0, .string ⟨#[]⟩, .slice none 0 0, .slice none 0 0, .bool false, .string ⟨#[]⟩, .slice none 0 0, .int .i64 0, .slice none 0 0, .string ⟨#[]⟩, .bool false]), 26, 376) := by kernel_rfl

theorem blk_new_at {w : World} {n : Nat} (h : w.heap.size = n) (t : TypeId) (cs : Array Value) : Blk (w.alloc (.cells cs t)) n t cs := by
  subst h
  exact Blk.new _ _ _
theorem drew_size (W : World) : W.drew.heap.size = W.heap.size := rfl
theorem alloc_after {w0 cur : World} (h : Fr No w0 cur) (t : TypeId) (cs : Array Value) : Fr No w0 (cur.alloc (.cells cs t)) ∧ Blk (cur.alloc (.cells cs t)) cur.heap.size t cs := ⟨h.alloc _, Blk.new _ _ _⟩

/-- The seven cells of a configuration. -/
def cfgV (c : Cr.Cfg) : Array Value := #[.int .i64 c.conns, .int .i64 c.jobs, .int .i64 c.workers, .int .i64 c.window, .int .i64 c.idle, .int .i64 c.drain, .string ⟨c.token.toArray⟩]

/-- What server.New leaves: a server whose net is empty, which has no connection, at time 0, running. -/
def NewSrv (w : World) (e : Ending) (w' : World) : Prop := ∃ g gN cs, e = .returned (.pointer (some ⟨g, 0, none⟩)) ∧ w.heap.size ≤ g ∧ w.heap.size ≤ gN ∧ ¬ gN = g ∧ Blk w' gN 56 #[.slice none 0 0, .slice none 0 0] ∧ Blk w' g 39 cs ∧
  cs[0]? = some (.pointer (some ⟨gN, 0, none⟩)) ∧ cs[10]? = some (.slice none 0 0) ∧ cs[12]? = some (.int .i64 0) ∧ cs[13]? = some (.int .i64 0) ∧ Fr No w w'

theorem newSrv_mk {w w' : World} {e : Ending} {g gN : Nat} {cs : Array Value} (he : e = .returned (.pointer (some ⟨g, 0, none⟩))) (hB : Blk w' g 39 cs) (hN : Blk w' gN 56 #[.slice none 0 0, .slice none 0 0])
    (h1 : w.heap.size ≤ g) (h2 : w.heap.size ≤ gN) (h3 : ¬ gN = g) (c0 : cs[0]? = some (.pointer (some ⟨gN, 0, none⟩))) (c1 : cs[10]? = some (.slice none 0 0)) (c2 : cs[12]? = some (.int .i64 0)) (c3 : cs[13]? = some (.int .i64 0)) (hf : Fr No w w') : NewSrv w e w' :=
  ⟨g, gN, cs, he, h1, h2, h3, hN, hB, c0, c1, c2, c3, hf⟩

set_option maxRecDepth 100000 in
set_option maxHeartbeats 8000000 in
theorem serverNew_any (w : World) (hh : Hands w) (c : Cr.Cfg) :
    Calls Tryz.prog 7 #[.agg #[.int .i64 c.conns, .int .i64 c.jobs, .int .i64 c.workers, .int .i64 c.window, .int .i64 c.idle, .int .i64 c.drain, .string ⟨c.token.toArray⟩]] w fun e w' => NewSrv w e w' := by
  obtain ⟨bc, hbc⟩ : ∃ bc, w.heap.size = bc := ⟨_, rfl⟩
  have hb0 := Blk.new w 23 #[.int .i64 c.conns, .int .i64 c.jobs, .int .i64 c.workers, .int .i64 c.window, .int .i64 c.idle, .int .i64 c.drain, .string ⟨c.token.toArray⟩]
  have hf0 : Fr No w (w.alloc (.cells #[.int .i64 c.conns, .int .i64 c.jobs, .int .i64 c.workers, .int .i64 c.window, .int .i64 c.idle, .int .i64 c.drain, .string ⟨c.token.toArray⟩] 23)) := (Fr.refl _ _).alloc _
  have hB := fun W n m => bring_any W n m
  have HB := Lib.hid hB
  have Hbc := Lib.hid hbc
  clear hB hbc
  go_enter Tryz.func7, Tryz.ntmps7
  go_wp2_with fail
  rw [Hbc.out] at hb0 ⊢
  obtain ⟨W0, hW0⟩ : ∃ W0, w.alloc (.cells #[.int .i64 c.conns, .int .i64 c.jobs, .int .i64 c.workers, .int .i64 c.window, .int .i64 c.idle, .int .i64 c.drain, .string ⟨c.token.toArray⟩] 23) = W0 := ⟨_, rfl⟩
  rw [hW0] at hb0 hf0 ⊢
  clear hW0
  have c0 : W0.drew.cell? ⟨bc, 0, none⟩ = some (.int .i64 c.conns) := hb0.cell 0
  have c2 : W0.drew.cell? ⟨bc, 2, none⟩ = some (.int .i64 c.workers) := hb0.cell 2
  have c4 : W0.drew.cell? ⟨bc, 4, none⟩ = some (.int .i64 c.idle) := hb0.cell 4
  have c5 : W0.drew.cell? ⟨bc, 5, none⟩ = some (.int .i64 c.drain) := hb0.cell 5
  refine wp_region_y (Fr No) [13, 15, 17, 19] (.pure 0 (.read 1 (.pure 3 (.read 4 (.pure 6 (.read 7 (.pure 9 (.read 10 (.eff 2 (.pure 12 (.eff 5 (.eff 8 (.eff 11 (.late 13 (.plate 14 (.late 15 (.plate 16 (.late 17 (.plate 18 (.late 19 .nil)))))))))))))))))))) (by rfl) (PlanRel.refl _) (PlanRel.trans _) (by intro c a d v w h; cases d <;> exact h) (by kernel_rfl) (fun s hs => ?_) (by kernel_rfl)
  simp only [yOf, List.getElem?_toArray, List.getElem?_cons_succ, List.getElem?_cons_zero, Option.some.injEq] at hs
  subst hs
  refine y_pure ?_ (by rfl) (fun w' => ?_) ?_
  rotate_left
  · (go_simp; try with_reducible rfl)
  simp only [Act.put, List.setIfInBounds_toArray, List.set_cons_zero, List.set_cons_succ]
  refine y_reads ?_ (by rfl) (fun w' hR => ?_) ?_
  rotate_left
  · have hk := hR.cell c0 id
    (go_simp; try with_reducible rfl)
  simp only [Act.put, List.setIfInBounds_toArray, List.set_cons_zero, List.set_cons_succ]
  refine y_pure ?_ (by rfl) (fun w' => ?_) ?_
  rotate_left
  · (go_simp; try with_reducible rfl)
  simp only [Act.put, List.setIfInBounds_toArray, List.set_cons_zero, List.set_cons_succ]
  refine y_reads ?_ (by rfl) (fun w' hR => ?_) ?_
  rotate_left
  · have hk := hR.cell c2 id
    (go_simp; try with_reducible rfl)
  simp only [Act.put, List.setIfInBounds_toArray, List.set_cons_zero, List.set_cons_succ]
  refine y_pure ?_ (by rfl) (fun w' => ?_) ?_
  rotate_left
  · (go_simp; try with_reducible rfl)
  simp only [Act.put, List.setIfInBounds_toArray, List.set_cons_zero, List.set_cons_succ]
  refine y_reads ?_ (by rfl) (fun w' hR => ?_) ?_
  rotate_left
  · have hk := hR.cell c4 id
    (go_simp; try with_reducible rfl)
  simp only [Act.put, List.setIfInBounds_toArray, List.set_cons_zero, List.set_cons_succ]
  refine y_pure ?_ (by rfl) (fun w' => ?_) ?_
  rotate_left
  · (go_simp; try with_reducible rfl)
  simp only [Act.put, List.setIfInBounds_toArray, List.set_cons_zero, List.set_cons_succ]
  refine y_reads ?_ (by rfl) (fun w' hR => ?_) ?_
  rotate_left
  · have hk := hR.cell c5 id
    (go_simp; try with_reducible rfl)
  simp only [Act.put, List.setIfInBounds_toArray, List.set_cons_zero, List.set_cons_succ]
  refine y_does (by rfl) (fun K hK => ?_)
  go_simp
  refine (HB.out _ _ _).mono ?_
  rintro e w1 ⟨rfl, hf1⟩
  refine hK _ _ hf1 ?_
  try simp only [Act.put, List.setIfInBounds_toArray, List.set_cons_zero, List.set_cons_succ]
  refine y_pure ?_ (by rfl) (fun w' => ?_) ?_
  rotate_left
  · (go_simp; try with_reducible rfl)
  simp only [Act.put, List.setIfInBounds_toArray, List.set_cons_zero, List.set_cons_succ]
  refine y_does (by rfl) (fun K hK => ?_)
  go_simp
  refine (HB.out _ _ _).mono ?_
  rintro e w2 ⟨rfl, hf2⟩
  refine hK _ _ hf2 ?_
  try simp only [Act.put, List.setIfInBounds_toArray, List.set_cons_zero, List.set_cons_succ]
  refine y_does (by rfl) (fun K hK => ?_)
  go_simp
  refine (HB.out _ _ _).mono ?_
  rintro e w3 ⟨rfl, hf3⟩
  refine hK _ _ hf3 ?_
  try simp only [Act.put, List.setIfInBounds_toArray, List.set_cons_zero, List.set_cons_succ]
  refine y_does (by rfl) (fun K hK => ?_)
  go_simp
  refine (HB.out _ _ _).mono ?_
  rintro e w4 ⟨rfl, hf4⟩
  refine hK _ _ hf4 ?_
  have hfB : Fr No W0 w4 := (((Fr.refl _ _).drew.trans hf1 (fun _ _ h => h)).trans hf2 (fun _ _ h => h)).trans (hf3.trans hf4 (fun _ _ h => h)) (fun _ _ h => h)
  have hb4 := hb0.fr hfB id
  have r0 : w4.cell? ⟨bc, 0, none⟩ = some (.int .i64 c.conns) := hb4.cell 0
  have z0 : w4.frozen? ⟨bc, 0, none⟩ = false := hb4.frozen 0
  have hb5 := hb4.set_ 0 (.int .i64 (bringI c.conns 8))
  try simp only [Act.put, List.setIfInBounds_toArray, List.set_cons_zero, List.set_cons_succ]
  refine y_late (by rfl) (fun K hK => ?_)
  go_simp
  refine hK _ _ ?_
  have hfs5 : Fr (fun i => i = bc) w4 (w4.setCell ⟨bc, 0, none⟩ (.int .i64 (bringI c.conns 8))) := by
    refine Fr.setCell (Fr.refl _ _) ?_ _
    intro _; rfl
  clear r0 z0
  generalize w4.setCell ⟨bc, 0, none⟩ (.int .i64 (bringI c.conns 8)) = w5 at hb5 hfs5 ⊢
  have r0 : w5.cell? ⟨bc, 2, none⟩ = some (.int .i64 c.workers) := hb5.cell 2
  have z0 : w5.frozen? ⟨bc, 2, none⟩ = false := hb5.frozen 2
  have hb6 := hb5.set_ 2 (.int .i64 (bringI c.workers 4))
  try simp only [Act.put, List.setIfInBounds_toArray, List.set_cons_zero, List.set_cons_succ]
  refine y_pure ?_ (by rfl) (fun w' => ?_) ?_
  rotate_left
  · (go_simp; try with_reducible rfl)
  simp only [Act.put, List.setIfInBounds_toArray, List.set_cons_zero, List.set_cons_succ]
  refine y_late (by rfl) (fun K hK => ?_)
  go_simp
  refine hK _ _ ?_
  have hfs6 : Fr (fun i => i = bc) w5 (w5.setCell ⟨bc, 2, none⟩ (.int .i64 (bringI c.workers 4))) := by
    refine Fr.setCell (Fr.refl _ _) ?_ _
    intro _; rfl
  clear r0 z0
  generalize w5.setCell ⟨bc, 2, none⟩ (.int .i64 (bringI c.workers 4)) = w6 at hb6 hfs6 ⊢
  have r0 : w6.cell? ⟨bc, 4, none⟩ = some (.int .i64 c.idle) := hb6.cell 4
  have z0 : w6.frozen? ⟨bc, 4, none⟩ = false := hb6.frozen 4
  have hb7 := hb6.set_ 4 (.int .i64 (bringI c.idle 1073741824))
  try simp only [Act.put, List.setIfInBounds_toArray, List.set_cons_zero, List.set_cons_succ]
  refine y_pure ?_ (by rfl) (fun w' => ?_) ?_
  rotate_left
  · (go_simp; try with_reducible rfl)
  simp only [Act.put, List.setIfInBounds_toArray, List.set_cons_zero, List.set_cons_succ]
  refine y_late (by rfl) (fun K hK => ?_)
  go_simp
  refine hK _ _ ?_
  have hfs7 : Fr (fun i => i = bc) w6 (w6.setCell ⟨bc, 4, none⟩ (.int .i64 (bringI c.idle 1073741824))) := by
    refine Fr.setCell (Fr.refl _ _) ?_ _
    intro _; rfl
  clear r0 z0
  generalize w6.setCell ⟨bc, 4, none⟩ (.int .i64 (bringI c.idle 1073741824)) = w7 at hb7 hfs7 ⊢
  have r0 : w7.cell? ⟨bc, 5, none⟩ = some (.int .i64 c.drain) := hb7.cell 5
  have z0 : w7.frozen? ⟨bc, 5, none⟩ = false := hb7.frozen 5
  have hb8 := hb7.set_ 5 (.int .i64 (bringI c.drain 1073741824))
  try simp only [Act.put, List.setIfInBounds_toArray, List.set_cons_zero, List.set_cons_succ]
  refine y_pure ?_ (by rfl) (fun w' => ?_) ?_
  rotate_left
  · (go_simp; try with_reducible rfl)
  simp only [Act.put, List.setIfInBounds_toArray, List.set_cons_zero, List.set_cons_succ]
  refine y_late (by rfl) (fun K hK => ?_)
  go_simp
  refine hK _ _ ?_
  have hfs8 : Fr (fun i => i = bc) w7 (w7.setCell ⟨bc, 5, none⟩ (.int .i64 (bringI c.drain 1073741824))) := by
    refine Fr.setCell (Fr.refl _ _) ?_ _
    intro _; rfl
  clear r0 z0
  generalize w7.setCell ⟨bc, 5, none⟩ (.int .i64 (bringI c.drain 1073741824)) = w8 at hb8 hfs8 ⊢
  try simp only [Act.put, List.setIfInBounds_toArray, List.set_cons_zero, List.set_cons_succ]
  refine y_end ?_
  have hf08 : Fr No w w8 := (hf0.trans hfB (fun _ _ h => h)).trans ((hfs5.trans hfs6 (fun _ _ h => h)).trans (hfs7.trans hfs8 (fun _ _ h => h)) (fun _ _ h => h)) (fun i hi h => by have := Hbc.out; omega)
  go_wp2_with fail
  have hHw := hh.fr hf08 id
  have HHw := Lib.hid (fun W (hW : Fr No w8 W) => hHw.fr hW id)
  have hb9 : Blk w8 bc 23 #[.int .i64 (bringI c.conns 8), .int .i64 c.jobs, .int .i64 (bringI c.workers 4), .int .i64 c.window, .int .i64 (bringI c.idle 1073741824), .int .i64 (bringI c.drain 1073741824), .string ⟨c.token.toArray⟩] := by simpa using hb8
  obtain ⟨hk1, hk4⟩ := bringI_le c.workers 4 (by omega)
  have hmk := fun W => run_make_any (P := Tryz.prog) 36 120 _ 26 376 Tryz.underlying36 infoWorker (bringI c.workers 4) (by omega) (by omega) (by omega) W
  have hcur : Fr No w8 w8.drew := (Fr.refl _ _).drew
  have hgc := hf08.size
  clear hb0 c0 c2 c4 c5 hb4 hb5 hb6 hb7 hb8 hfs5 hfs6 hfs7 hfs8 hf1 hf2 hf3 hf4 hfB
  generalize bringI c.conns 8 = k0 at hb9 ⊢
  generalize bringI c.workers 4 = wk at hb9 hk1 hk4 hmk ⊢
  generalize bringI c.idle 1073741824 = k4 at hb9 ⊢
  generalize bringI c.drain 1073741824 = k5 at hb9 ⊢
  have c0 : w8.drew.cell? ⟨bc, 0, none⟩ = some (.int .i64 k0) := hb9.cell 0
  have c1 : w8.drew.cell? ⟨bc, 1, none⟩ = some (.int .i64 c.jobs) := hb9.cell 1
  have c2 : w8.drew.cell? ⟨bc, 2, none⟩ = some (.int .i64 wk) := hb9.cell 2
  have c3 : w8.drew.cell? ⟨bc, 3, none⟩ = some (.int .i64 c.window) := hb9.cell 3
  have c4 : w8.drew.cell? ⟨bc, 4, none⟩ = some (.int .i64 k4) := hb9.cell 4
  have c5 : w8.drew.cell? ⟨bc, 5, none⟩ = some (.int .i64 k5) := hb9.cell 5
  have c6 : w8.drew.cell? ⟨bc, 6, none⟩ = some (.string ⟨c.token.toArray⟩) := hb9.cell 6
  have hlen8 : firstRoutes.length ≤ 1000 := by rw [firstRoutes_len]; omega
  have hsm8 := firstRoutes_small
  generalize hFR : firstRoutes = FR at hlen8 hsm8
  have HFi := Lib.hid (fun W hW => hFR ▸ first_any W hW)
  clear hFR
  refine wp_region_u (Fr No) (.one 0 false (.one 2 false (.one 3 false (.one 4 false (.one 7 false (.one 8 false (.one 10 false (.one 11 false (.three 1 (.two 5 (.two 6 (.two 9 (.one 12 true (.one 13 false (.one 14 true (.one 15 false .nil)))) 12 (.one 9 true (.one 13 false (.one 14 true (.one 15 false .nil))))) 12 (.one 6 true (.one 9 true (.one 13 false (.one 14 true (.one 15 false .nil)))))) 12 (.one 5 true (.one 6 true (.one 9 true (.one 13 false (.one 14 true (.one 15 false .nil))))))) 5 (.three 1 (.two 6 (.two 9 (.one 12 true (.one 13 false (.one 14 true (.one 15 false .nil)))) 12 (.one 9 true (.one 13 false (.one 14 true (.one 15 false .nil))))) 12 (.one 6 true (.one 9 true (.one 13 false (.one 14 true (.one 15 false .nil)))))) 6 (.three 1 (.two 9 (.one 12 true (.one 13 false (.one 14 true (.one 15 false .nil)))) 12 (.one 9 true (.one 13 false (.one 14 true (.one 15 false .nil))))) 9 (.two 1 (.one 12 true (.one 13 false (.one 14 true (.one 15 false .nil)))) 12 (.one 1 true (.one 13 false (.one 14 true (.one 15 false .nil))))) 12 (.two 1 (.one 9 true (.one 13 false (.one 14 true (.one 15 false .nil)))) 9 (.one 1 true (.one 13 false (.one 14 true (.one 15 false .nil)))))) 12 (.two 1 (.one 6 true (.one 9 true (.one 13 false (.one 14 true (.one 15 false .nil))))) 6 (.two 1 (.one 9 true (.one 13 false (.one 14 true (.one 15 false .nil)))) 9 (.one 1 true (.one 13 false (.one 14 true (.one 15 false .nil))))))) 12 (.two 1 (.one 5 true (.one 6 true (.one 9 true (.one 13 false (.one 14 true (.one 15 false .nil)))))) 5 (.two 1 (.one 6 true (.one 9 true (.one 13 false (.one 14 true (.one 15 false .nil))))) 6 (.two 1 (.one 9 true (.one 13 false (.one 14 true (.one 15 false .nil)))) 9 (.one 1 true (.one 13 false (.one 14 true (.one 15 false .nil)))))))))))))))) (by rfl) (PlanRel.refl _) (PlanRel.trans _) (by intro c a d v w h; cases d <;> exact h) (by kernel_rfl) (fun s hs => ?_) (by kernel_rfl)
  simp only [uOf, List.getElem?_toArray, List.getElem?_cons_succ, List.getElem?_cons_zero, Option.some.injEq] at hs
  subst hs
  refine u_reads ?_ (by rfl) (fun w' hR => ?_) ?_
  rotate_left
  · (go_simp; try with_reducible rfl)
  simp only [Act.put, List.setIfInBounds_toArray, List.set_cons_zero, List.set_cons_succ]
  refine u_reads ?_ (by rfl) (fun w' hR => ?_) ?_
  rotate_left
  · have k0 := hR.cell c0 id
    have k1 := hR.cell c1 id
    have k2 := hR.cell c2 id
    have k3 := hR.cell c3 id
    have k4 := hR.cell c4 id
    have k5 := hR.cell c5 id
    have k6 := hR.cell c6 id
    (go_simp; try with_reducible rfl)
  simp only [Act.put, List.setIfInBounds_toArray, List.set_cons_zero, List.set_cons_succ]
  refine u_reads ?_ (by rfl) (fun w' hR => ?_) ?_
  rotate_left
  · (go_simp; try with_reducible rfl)
  simp only [Act.put, List.setIfInBounds_toArray, List.set_cons_zero, List.set_cons_succ]
  refine u_reads ?_ (by rfl) (fun w' hR => ?_) ?_
  rotate_left
  · have k6 := hR.cell c6 id
    (go_simp; try with_reducible rfl)
  simp only [Act.put, List.setIfInBounds_toArray, List.set_cons_zero, List.set_cons_succ]
  refine u_reads ?_ (by rfl) (fun w' hR => ?_) ?_
  rotate_left
  · (go_simp; try with_reducible rfl)
  simp only [Act.put, List.setIfInBounds_toArray, List.set_cons_zero, List.set_cons_succ]
  refine u_reads ?_ (by rfl) (fun w' hR => ?_) ?_
  rotate_left
  · have k1 := hR.cell c1 id
    (go_simp; try with_reducible rfl)
  simp only [Act.put, List.setIfInBounds_toArray, List.set_cons_zero, List.set_cons_succ]
  refine u_reads ?_ (by rfl) (fun w' hR => ?_) ?_
  rotate_left
  · (go_simp; try with_reducible rfl)
  simp only [Act.put, List.setIfInBounds_toArray, List.set_cons_zero, List.set_cons_succ]
  refine u_reads ?_ (by rfl) (fun w' hR => ?_) ?_
  rotate_left
  · have k2 := hR.cell c2 id
    (go_simp; try with_reducible rfl)
  simp only [Act.put, List.setIfInBounds_toArray, List.set_cons_zero, List.set_cons_succ]
  refine u_three (by rfl) (by rfl) (by rfl) (fun K hK => ?_) (fun K hK => ?_) (fun K hK => ?_)
  · go_simp
    refine hK _ _ ?hq ?_
    case hq => exact (Fr.refl _ _).alloc _
    have hgN := hcur.size
    obtain ⟨hcur, hnet⟩ := alloc_after hcur 56 #[.slice none 0 0, .slice none 0 0]
    try replace hc9' := hc9'.alloc (.cells #[.slice none 0 0, .slice none 0 0] 56)
    try simp only [Act.put, List.setIfInBounds_toArray, List.set_cons_zero, List.set_cons_succ]
    refine u_two (by rfl) (by rfl) (fun K hK => ?_) (fun K hK => ?_)
    · go_simp
      refine (HFi.out _ (HHw.out _ hcur)).mono (Hid.out ?_)
      refine Lib.hid ?_
      rintro e w9 ⟨v9, rfl, hown9, hf9⟩
      obtain ⟨A9, c9, rfl, hc9, hr9⟩ := own_form hown9
      refine hK _ _ hf9 ?_
      replace hcur := hcur.trans hf9 (fun _ _ h => h)
      have hc9' := Fr.refl No w9
      try replace hnet := hnet.fr hf9 id
      try simp only [Act.put, List.setIfInBounds_toArray, List.set_cons_zero, List.set_cons_succ]
      refine u_two (by rfl) (by rfl) (fun K hK => ?_) (fun K hK => ?_)
      · go_simp
        refine (handleNew_any _ _ (HHw.out _ hcur) c.token A9 c9 FR (hr9.fr hc9' (fun _ _ h => h)) hlen8 hsm8).mono (Hid.out ?_)
        refine Lib.hid ?_
        rintro e w10 ⟨gw, rfl, hgw, hf10⟩
        refine hK _ _ hf10 ?_
        replace hcur := hcur.trans hf10 (fun _ _ h => h)
        try replace hnet := hnet.fr hf10 id
        try simp only [Act.put, List.setIfInBounds_toArray, List.set_cons_zero, List.set_cons_succ]
        refine u_two (by rfl) (by rfl) (fun K hK => ?_) (fun K hK => ?_)
        · go_simp
          refine (queueNew_any _ c.jobs).mono (Hid.out ?_)
          refine Lib.hid ?_
          rintro e w11 ⟨gq, rq, nq, rfl, _, _, _, _, _, hf11⟩
          refine hK _ _ hf11 ?_
          replace hcur := hcur.trans hf11 (fun _ _ h => h)
          try replace hnet := hnet.fr hf11 id
          try simp only [Act.put, List.setIfInBounds_toArray, List.set_cons_zero, List.set_cons_succ]
          refine u_does (by rfl) (fun K hK => ?_)
          go_simp
          refine hK _ _ ?hq ?_
          case hq => exact (Fr.refl _ _).alloc _
          replace hcur := hcur.alloc (.cells (madeCells #[.int .i64 0, .int .i64 0, .int .i64 0, .string ⟨#[]⟩, .string ⟨#[]⟩, .slice none 0 0, .string ⟨#[]⟩, .bool false, .string ⟨#[]⟩, .string ⟨#[]⟩, .slice none 0 0, .string ⟨#[]⟩, .bool false, .int .i64 0, .int .i64 0, .int .i64 0, .string ⟨#[]⟩, .slice none 0 0, .slice none 0 0, .bool false, .string ⟨#[]⟩, .slice none 0 0, .int .i64 0, .slice none 0 0, .string ⟨#[]⟩, .bool false] (wk.toNat * 26)) 120)
          try replace hnet := hnet.alloc (.cells (madeCells #[.int .i64 0, .int .i64 0, .int .i64 0, .string ⟨#[]⟩, .string ⟨#[]⟩, .slice none 0 0, .string ⟨#[]⟩, .bool false, .string ⟨#[]⟩, .string ⟨#[]⟩, .slice none 0 0, .string ⟨#[]⟩, .bool false, .int .i64 0, .int .i64 0, .int .i64 0, .string ⟨#[]⟩, .slice none 0 0, .slice none 0 0, .bool false, .string ⟨#[]⟩, .slice none 0 0, .int .i64 0, .slice none 0 0, .string ⟨#[]⟩, .bool false] (wk.toNat * 26)) 120)
          try replace hc9' := hc9'.alloc (.cells (madeCells #[.int .i64 0, .int .i64 0, .int .i64 0, .string ⟨#[]⟩, .string ⟨#[]⟩, .slice none 0 0, .string ⟨#[]⟩, .bool false, .string ⟨#[]⟩, .string ⟨#[]⟩, .slice none 0 0, .string ⟨#[]⟩, .bool false, .int .i64 0, .int .i64 0, .int .i64 0, .string ⟨#[]⟩, .slice none 0 0, .slice none 0 0, .bool false, .string ⟨#[]⟩, .slice none 0 0, .int .i64 0, .slice none 0 0, .string ⟨#[]⟩, .bool false] (wk.toNat * 26)) 120)
          try simp only [Act.put, List.setIfInBounds_toArray, List.set_cons_zero, List.set_cons_succ]
          refine u_reads ?_ (by rfl) (fun w' hR => ?_) ?_
          rotate_left
          · (go_simp; try with_reducible rfl)
          simp only [Act.put, List.setIfInBounds_toArray, List.set_cons_zero, List.set_cons_succ]
          refine u_does (by rfl) (fun K hK => ?_)
          go_simp
          have hs := (hf08.trans hcur (fun _ _ h => h)).size
          have hlt := hnet.lt
          refine hK _ _ ?hq ?_
          case hq => exact (Fr.refl _ _).alloc _
          try simp only [Act.put, List.setIfInBounds_toArray, List.set_cons_zero, List.set_cons_succ]
          refine u_reads ?_ (by rfl) (fun w' hR => ?_) ?_
          rotate_left
          · (go_simp; try with_reducible rfl)
          simp only [Act.put, List.setIfInBounds_toArray, List.set_cons_zero, List.set_cons_succ]
          refine u_end ?_
          go_wp2_with fail
          go_ret
          try simp only [World.size_alloc, drew_size] at hgN
          try simp only [World.size_alloc, drew_size] at hs
          try simp only [World.size_alloc, drew_size] at hlt
          refine newSrv_mk rfl (blk_new_at ?h0 _ _) (hnet.alloc _) ?h1 ?h2 ?h3 ?c0 rfl rfl rfl (hf08.trans (hcur.alloc _) (fun _ _ h => h))
          case h0 => simp
          case h1 => omega
          case h2 => (try simp only [World.size_alloc, drew_size]); omega
          case h3 => (try simp only [World.size_alloc, drew_size]); omega
          case c0 => first | rfl | simp
        · go_simp
          refine hK _ _ ?hq ?_
          case hq => exact (Fr.refl _ _).alloc _
          replace hcur := hcur.alloc (.cells (madeCells #[.int .i64 0, .int .i64 0, .int .i64 0, .string ⟨#[]⟩, .string ⟨#[]⟩, .slice none 0 0, .string ⟨#[]⟩, .bool false, .string ⟨#[]⟩, .string ⟨#[]⟩, .slice none 0 0, .string ⟨#[]⟩, .bool false, .int .i64 0, .int .i64 0, .int .i64 0, .string ⟨#[]⟩, .slice none 0 0, .slice none 0 0, .bool false, .string ⟨#[]⟩, .slice none 0 0, .int .i64 0, .slice none 0 0, .string ⟨#[]⟩, .bool false] (wk.toNat * 26)) 120)
          try replace hnet := hnet.alloc (.cells (madeCells #[.int .i64 0, .int .i64 0, .int .i64 0, .string ⟨#[]⟩, .string ⟨#[]⟩, .slice none 0 0, .string ⟨#[]⟩, .bool false, .string ⟨#[]⟩, .string ⟨#[]⟩, .slice none 0 0, .string ⟨#[]⟩, .bool false, .int .i64 0, .int .i64 0, .int .i64 0, .string ⟨#[]⟩, .slice none 0 0, .slice none 0 0, .bool false, .string ⟨#[]⟩, .slice none 0 0, .int .i64 0, .slice none 0 0, .string ⟨#[]⟩, .bool false] (wk.toNat * 26)) 120)
          try replace hc9' := hc9'.alloc (.cells (madeCells #[.int .i64 0, .int .i64 0, .int .i64 0, .string ⟨#[]⟩, .string ⟨#[]⟩, .slice none 0 0, .string ⟨#[]⟩, .bool false, .string ⟨#[]⟩, .string ⟨#[]⟩, .slice none 0 0, .string ⟨#[]⟩, .bool false, .int .i64 0, .int .i64 0, .int .i64 0, .string ⟨#[]⟩, .slice none 0 0, .slice none 0 0, .bool false, .string ⟨#[]⟩, .slice none 0 0, .int .i64 0, .slice none 0 0, .string ⟨#[]⟩, .bool false] (wk.toNat * 26)) 120)
          try simp only [Act.put, List.setIfInBounds_toArray, List.set_cons_zero, List.set_cons_succ]
          refine u_does (by rfl) (fun K hK => ?_)
          go_simp
          refine (queueNew_any _ c.jobs).mono (Hid.out ?_)
          refine Lib.hid ?_
          rintro e w11 ⟨gq, rq, nq, rfl, _, _, _, _, _, hf11⟩
          refine hK _ _ hf11 ?_
          replace hcur := hcur.trans hf11 (fun _ _ h => h)
          try replace hnet := hnet.fr hf11 id
          try simp only [Act.put, List.setIfInBounds_toArray, List.set_cons_zero, List.set_cons_succ]
          refine u_reads ?_ (by rfl) (fun w' hR => ?_) ?_
          rotate_left
          · (go_simp; try with_reducible rfl)
          simp only [Act.put, List.setIfInBounds_toArray, List.set_cons_zero, List.set_cons_succ]
          refine u_does (by rfl) (fun K hK => ?_)
          go_simp
          have hs := (hf08.trans hcur (fun _ _ h => h)).size
          have hlt := hnet.lt
          refine hK _ _ ?hq ?_
          case hq => exact (Fr.refl _ _).alloc _
          try simp only [Act.put, List.setIfInBounds_toArray, List.set_cons_zero, List.set_cons_succ]
          refine u_reads ?_ (by rfl) (fun w' hR => ?_) ?_
          rotate_left
          · (go_simp; try with_reducible rfl)
          simp only [Act.put, List.setIfInBounds_toArray, List.set_cons_zero, List.set_cons_succ]
          refine u_end ?_
          go_wp2_with fail
          go_ret
          try simp only [World.size_alloc, drew_size] at hgN
          try simp only [World.size_alloc, drew_size] at hs
          try simp only [World.size_alloc, drew_size] at hlt
          refine newSrv_mk rfl (blk_new_at ?h0 _ _) (hnet.alloc _) ?h1 ?h2 ?h3 ?c0 rfl rfl rfl (hf08.trans (hcur.alloc _) (fun _ _ h => h))
          case h0 => simp
          case h1 => omega
          case h2 => (try simp only [World.size_alloc, drew_size]); omega
          case h3 => (try simp only [World.size_alloc, drew_size]); omega
          case c0 => first | rfl | simp
      · go_simp
        refine hK _ _ ?hq ?_
        case hq => exact (Fr.refl _ _).alloc _
        replace hcur := hcur.alloc (.cells (madeCells #[.int .i64 0, .int .i64 0, .int .i64 0, .string ⟨#[]⟩, .string ⟨#[]⟩, .slice none 0 0, .string ⟨#[]⟩, .bool false, .string ⟨#[]⟩, .string ⟨#[]⟩, .slice none 0 0, .string ⟨#[]⟩, .bool false, .int .i64 0, .int .i64 0, .int .i64 0, .string ⟨#[]⟩, .slice none 0 0, .slice none 0 0, .bool false, .string ⟨#[]⟩, .slice none 0 0, .int .i64 0, .slice none 0 0, .string ⟨#[]⟩, .bool false] (wk.toNat * 26)) 120)
        try replace hnet := hnet.alloc (.cells (madeCells #[.int .i64 0, .int .i64 0, .int .i64 0, .string ⟨#[]⟩, .string ⟨#[]⟩, .slice none 0 0, .string ⟨#[]⟩, .bool false, .string ⟨#[]⟩, .string ⟨#[]⟩, .slice none 0 0, .string ⟨#[]⟩, .bool false, .int .i64 0, .int .i64 0, .int .i64 0, .string ⟨#[]⟩, .slice none 0 0, .slice none 0 0, .bool false, .string ⟨#[]⟩, .slice none 0 0, .int .i64 0, .slice none 0 0, .string ⟨#[]⟩, .bool false] (wk.toNat * 26)) 120)
        try replace hc9' := hc9'.alloc (.cells (madeCells #[.int .i64 0, .int .i64 0, .int .i64 0, .string ⟨#[]⟩, .string ⟨#[]⟩, .slice none 0 0, .string ⟨#[]⟩, .bool false, .string ⟨#[]⟩, .string ⟨#[]⟩, .slice none 0 0, .string ⟨#[]⟩, .bool false, .int .i64 0, .int .i64 0, .int .i64 0, .string ⟨#[]⟩, .slice none 0 0, .slice none 0 0, .bool false, .string ⟨#[]⟩, .slice none 0 0, .int .i64 0, .slice none 0 0, .string ⟨#[]⟩, .bool false] (wk.toNat * 26)) 120)
        try simp only [Act.put, List.setIfInBounds_toArray, List.set_cons_zero, List.set_cons_succ]
        refine u_does (by rfl) (fun K hK => ?_)
        go_simp
        refine (handleNew_any _ _ (HHw.out _ hcur) c.token A9 c9 FR (hr9.fr hc9' (fun _ _ h => h)) hlen8 hsm8).mono (Hid.out ?_)
        refine Lib.hid ?_
        rintro e w10 ⟨gw, rfl, hgw, hf10⟩
        refine hK _ _ hf10 ?_
        replace hcur := hcur.trans hf10 (fun _ _ h => h)
        try replace hnet := hnet.fr hf10 id
        try simp only [Act.put, List.setIfInBounds_toArray, List.set_cons_zero, List.set_cons_succ]
        refine u_does (by rfl) (fun K hK => ?_)
        go_simp
        refine (queueNew_any _ c.jobs).mono (Hid.out ?_)
        refine Lib.hid ?_
        rintro e w11 ⟨gq, rq, nq, rfl, _, _, _, _, _, hf11⟩
        refine hK _ _ hf11 ?_
        replace hcur := hcur.trans hf11 (fun _ _ h => h)
        try replace hnet := hnet.fr hf11 id
        try simp only [Act.put, List.setIfInBounds_toArray, List.set_cons_zero, List.set_cons_succ]
        refine u_reads ?_ (by rfl) (fun w' hR => ?_) ?_
        rotate_left
        · (go_simp; try with_reducible rfl)
        simp only [Act.put, List.setIfInBounds_toArray, List.set_cons_zero, List.set_cons_succ]
        refine u_does (by rfl) (fun K hK => ?_)
        go_simp
        have hs := (hf08.trans hcur (fun _ _ h => h)).size
        have hlt := hnet.lt
        refine hK _ _ ?hq ?_
        case hq => exact (Fr.refl _ _).alloc _
        try simp only [Act.put, List.setIfInBounds_toArray, List.set_cons_zero, List.set_cons_succ]
        refine u_reads ?_ (by rfl) (fun w' hR => ?_) ?_
        rotate_left
        · (go_simp; try with_reducible rfl)
        simp only [Act.put, List.setIfInBounds_toArray, List.set_cons_zero, List.set_cons_succ]
        refine u_end ?_
        go_wp2_with fail
        go_ret
        try simp only [World.size_alloc, drew_size] at hgN
        try simp only [World.size_alloc, drew_size] at hs
        try simp only [World.size_alloc, drew_size] at hlt
        refine newSrv_mk rfl (blk_new_at ?h0 _ _) (hnet.alloc _) ?h1 ?h2 ?h3 ?c0 rfl rfl rfl (hf08.trans (hcur.alloc _) (fun _ _ h => h))
        case h0 => simp
        case h1 => omega
        case h2 => (try simp only [World.size_alloc, drew_size]); omega
        case h3 => (try simp only [World.size_alloc, drew_size]); omega
        case c0 => first | rfl | simp
    · go_simp
      refine hK _ _ ?hq ?_
      case hq => exact (Fr.refl _ _).alloc _
      replace hcur := hcur.alloc (.cells (madeCells #[.int .i64 0, .int .i64 0, .int .i64 0, .string ⟨#[]⟩, .string ⟨#[]⟩, .slice none 0 0, .string ⟨#[]⟩, .bool false, .string ⟨#[]⟩, .string ⟨#[]⟩, .slice none 0 0, .string ⟨#[]⟩, .bool false, .int .i64 0, .int .i64 0, .int .i64 0, .string ⟨#[]⟩, .slice none 0 0, .slice none 0 0, .bool false, .string ⟨#[]⟩, .slice none 0 0, .int .i64 0, .slice none 0 0, .string ⟨#[]⟩, .bool false] (wk.toNat * 26)) 120)
      try replace hnet := hnet.alloc (.cells (madeCells #[.int .i64 0, .int .i64 0, .int .i64 0, .string ⟨#[]⟩, .string ⟨#[]⟩, .slice none 0 0, .string ⟨#[]⟩, .bool false, .string ⟨#[]⟩, .string ⟨#[]⟩, .slice none 0 0, .string ⟨#[]⟩, .bool false, .int .i64 0, .int .i64 0, .int .i64 0, .string ⟨#[]⟩, .slice none 0 0, .slice none 0 0, .bool false, .string ⟨#[]⟩, .slice none 0 0, .int .i64 0, .slice none 0 0, .string ⟨#[]⟩, .bool false] (wk.toNat * 26)) 120)
      try replace hc9' := hc9'.alloc (.cells (madeCells #[.int .i64 0, .int .i64 0, .int .i64 0, .string ⟨#[]⟩, .string ⟨#[]⟩, .slice none 0 0, .string ⟨#[]⟩, .bool false, .string ⟨#[]⟩, .string ⟨#[]⟩, .slice none 0 0, .string ⟨#[]⟩, .bool false, .int .i64 0, .int .i64 0, .int .i64 0, .string ⟨#[]⟩, .slice none 0 0, .slice none 0 0, .bool false, .string ⟨#[]⟩, .slice none 0 0, .int .i64 0, .slice none 0 0, .string ⟨#[]⟩, .bool false] (wk.toNat * 26)) 120)
      try simp only [Act.put, List.setIfInBounds_toArray, List.set_cons_zero, List.set_cons_succ]
      refine u_does (by rfl) (fun K hK => ?_)
      go_simp
      refine (HFi.out _ (HHw.out _ hcur)).mono (Hid.out ?_)
      refine Lib.hid ?_
      rintro e w9 ⟨v9, rfl, hown9, hf9⟩
      obtain ⟨A9, c9, rfl, hc9, hr9⟩ := own_form hown9
      refine hK _ _ hf9 ?_
      replace hcur := hcur.trans hf9 (fun _ _ h => h)
      have hc9' := Fr.refl No w9
      try replace hnet := hnet.fr hf9 id
      try simp only [Act.put, List.setIfInBounds_toArray, List.set_cons_zero, List.set_cons_succ]
      refine u_does (by rfl) (fun K hK => ?_)
      go_simp
      refine (handleNew_any _ _ (HHw.out _ hcur) c.token A9 c9 FR (hr9.fr hc9' (fun _ _ h => h)) hlen8 hsm8).mono (Hid.out ?_)
      refine Lib.hid ?_
      rintro e w10 ⟨gw, rfl, hgw, hf10⟩
      refine hK _ _ hf10 ?_
      replace hcur := hcur.trans hf10 (fun _ _ h => h)
      try replace hnet := hnet.fr hf10 id
      try simp only [Act.put, List.setIfInBounds_toArray, List.set_cons_zero, List.set_cons_succ]
      refine u_does (by rfl) (fun K hK => ?_)
      go_simp
      refine (queueNew_any _ c.jobs).mono (Hid.out ?_)
      refine Lib.hid ?_
      rintro e w11 ⟨gq, rq, nq, rfl, _, _, _, _, _, hf11⟩
      refine hK _ _ hf11 ?_
      replace hcur := hcur.trans hf11 (fun _ _ h => h)
      try replace hnet := hnet.fr hf11 id
      try simp only [Act.put, List.setIfInBounds_toArray, List.set_cons_zero, List.set_cons_succ]
      refine u_reads ?_ (by rfl) (fun w' hR => ?_) ?_
      rotate_left
      · (go_simp; try with_reducible rfl)
      simp only [Act.put, List.setIfInBounds_toArray, List.set_cons_zero, List.set_cons_succ]
      refine u_does (by rfl) (fun K hK => ?_)
      go_simp
      have hs := (hf08.trans hcur (fun _ _ h => h)).size
      have hlt := hnet.lt
      refine hK _ _ ?hq ?_
      case hq => exact (Fr.refl _ _).alloc _
      try simp only [Act.put, List.setIfInBounds_toArray, List.set_cons_zero, List.set_cons_succ]
      refine u_reads ?_ (by rfl) (fun w' hR => ?_) ?_
      rotate_left
      · (go_simp; try with_reducible rfl)
      simp only [Act.put, List.setIfInBounds_toArray, List.set_cons_zero, List.set_cons_succ]
      refine u_end ?_
      go_wp2_with fail
      go_ret
      try simp only [World.size_alloc, drew_size] at hgN
      try simp only [World.size_alloc, drew_size] at hs
      try simp only [World.size_alloc, drew_size] at hlt
      refine newSrv_mk rfl (blk_new_at ?h0 _ _) (hnet.alloc _) ?h1 ?h2 ?h3 ?c0 rfl rfl rfl (hf08.trans (hcur.alloc _) (fun _ _ h => h))
      case h0 => simp
      case h1 => omega
      case h2 => (try simp only [World.size_alloc, drew_size]); omega
      case h3 => (try simp only [World.size_alloc, drew_size]); omega
      case c0 => first | rfl | simp
  · go_simp
    refine (HFi.out _ (HHw.out _ hcur)).mono (Hid.out ?_)
    refine Lib.hid ?_
    rintro e w9 ⟨v9, rfl, hown9, hf9⟩
    obtain ⟨A9, c9, rfl, hc9, hr9⟩ := own_form hown9
    refine hK _ _ hf9 ?_
    replace hcur := hcur.trans hf9 (fun _ _ h => h)
    have hc9' := Fr.refl No w9
    try replace hnet := hnet.fr hf9 id
    try simp only [Act.put, List.setIfInBounds_toArray, List.set_cons_zero, List.set_cons_succ]
    refine u_three (by rfl) (by rfl) (by rfl) (fun K hK => ?_) (fun K hK => ?_) (fun K hK => ?_)
    · go_simp
      refine hK _ _ ?hq ?_
      case hq => exact (Fr.refl _ _).alloc _
      have hgN := hcur.size
      obtain ⟨hcur, hnet⟩ := alloc_after hcur 56 #[.slice none 0 0, .slice none 0 0]
      try replace hc9' := hc9'.alloc (.cells #[.slice none 0 0, .slice none 0 0] 56)
      try simp only [Act.put, List.setIfInBounds_toArray, List.set_cons_zero, List.set_cons_succ]
      refine u_two (by rfl) (by rfl) (fun K hK => ?_) (fun K hK => ?_)
      · go_simp
        refine (handleNew_any _ _ (HHw.out _ hcur) c.token A9 c9 FR (hr9.fr hc9' (fun _ _ h => h)) hlen8 hsm8).mono (Hid.out ?_)
        refine Lib.hid ?_
        rintro e w10 ⟨gw, rfl, hgw, hf10⟩
        refine hK _ _ hf10 ?_
        replace hcur := hcur.trans hf10 (fun _ _ h => h)
        try replace hnet := hnet.fr hf10 id
        try simp only [Act.put, List.setIfInBounds_toArray, List.set_cons_zero, List.set_cons_succ]
        refine u_two (by rfl) (by rfl) (fun K hK => ?_) (fun K hK => ?_)
        · go_simp
          refine (queueNew_any _ c.jobs).mono (Hid.out ?_)
          refine Lib.hid ?_
          rintro e w11 ⟨gq, rq, nq, rfl, _, _, _, _, _, hf11⟩
          refine hK _ _ hf11 ?_
          replace hcur := hcur.trans hf11 (fun _ _ h => h)
          try replace hnet := hnet.fr hf11 id
          try simp only [Act.put, List.setIfInBounds_toArray, List.set_cons_zero, List.set_cons_succ]
          refine u_does (by rfl) (fun K hK => ?_)
          go_simp
          refine hK _ _ ?hq ?_
          case hq => exact (Fr.refl _ _).alloc _
          replace hcur := hcur.alloc (.cells (madeCells #[.int .i64 0, .int .i64 0, .int .i64 0, .string ⟨#[]⟩, .string ⟨#[]⟩, .slice none 0 0, .string ⟨#[]⟩, .bool false, .string ⟨#[]⟩, .string ⟨#[]⟩, .slice none 0 0, .string ⟨#[]⟩, .bool false, .int .i64 0, .int .i64 0, .int .i64 0, .string ⟨#[]⟩, .slice none 0 0, .slice none 0 0, .bool false, .string ⟨#[]⟩, .slice none 0 0, .int .i64 0, .slice none 0 0, .string ⟨#[]⟩, .bool false] (wk.toNat * 26)) 120)
          try replace hnet := hnet.alloc (.cells (madeCells #[.int .i64 0, .int .i64 0, .int .i64 0, .string ⟨#[]⟩, .string ⟨#[]⟩, .slice none 0 0, .string ⟨#[]⟩, .bool false, .string ⟨#[]⟩, .string ⟨#[]⟩, .slice none 0 0, .string ⟨#[]⟩, .bool false, .int .i64 0, .int .i64 0, .int .i64 0, .string ⟨#[]⟩, .slice none 0 0, .slice none 0 0, .bool false, .string ⟨#[]⟩, .slice none 0 0, .int .i64 0, .slice none 0 0, .string ⟨#[]⟩, .bool false] (wk.toNat * 26)) 120)
          try replace hc9' := hc9'.alloc (.cells (madeCells #[.int .i64 0, .int .i64 0, .int .i64 0, .string ⟨#[]⟩, .string ⟨#[]⟩, .slice none 0 0, .string ⟨#[]⟩, .bool false, .string ⟨#[]⟩, .string ⟨#[]⟩, .slice none 0 0, .string ⟨#[]⟩, .bool false, .int .i64 0, .int .i64 0, .int .i64 0, .string ⟨#[]⟩, .slice none 0 0, .slice none 0 0, .bool false, .string ⟨#[]⟩, .slice none 0 0, .int .i64 0, .slice none 0 0, .string ⟨#[]⟩, .bool false] (wk.toNat * 26)) 120)
          try simp only [Act.put, List.setIfInBounds_toArray, List.set_cons_zero, List.set_cons_succ]
          refine u_reads ?_ (by rfl) (fun w' hR => ?_) ?_
          rotate_left
          · (go_simp; try with_reducible rfl)
          simp only [Act.put, List.setIfInBounds_toArray, List.set_cons_zero, List.set_cons_succ]
          refine u_does (by rfl) (fun K hK => ?_)
          go_simp
          have hs := (hf08.trans hcur (fun _ _ h => h)).size
          have hlt := hnet.lt
          refine hK _ _ ?hq ?_
          case hq => exact (Fr.refl _ _).alloc _
          try simp only [Act.put, List.setIfInBounds_toArray, List.set_cons_zero, List.set_cons_succ]
          refine u_reads ?_ (by rfl) (fun w' hR => ?_) ?_
          rotate_left
          · (go_simp; try with_reducible rfl)
          simp only [Act.put, List.setIfInBounds_toArray, List.set_cons_zero, List.set_cons_succ]
          refine u_end ?_
          go_wp2_with fail
          go_ret
          try simp only [World.size_alloc, drew_size] at hgN
          try simp only [World.size_alloc, drew_size] at hs
          try simp only [World.size_alloc, drew_size] at hlt
          refine newSrv_mk rfl (blk_new_at ?h0 _ _) (hnet.alloc _) ?h1 ?h2 ?h3 ?c0 rfl rfl rfl (hf08.trans (hcur.alloc _) (fun _ _ h => h))
          case h0 => simp
          case h1 => omega
          case h2 => (try simp only [World.size_alloc, drew_size]); omega
          case h3 => (try simp only [World.size_alloc, drew_size]); omega
          case c0 => first | rfl | simp
        · go_simp
          refine hK _ _ ?hq ?_
          case hq => exact (Fr.refl _ _).alloc _
          replace hcur := hcur.alloc (.cells (madeCells #[.int .i64 0, .int .i64 0, .int .i64 0, .string ⟨#[]⟩, .string ⟨#[]⟩, .slice none 0 0, .string ⟨#[]⟩, .bool false, .string ⟨#[]⟩, .string ⟨#[]⟩, .slice none 0 0, .string ⟨#[]⟩, .bool false, .int .i64 0, .int .i64 0, .int .i64 0, .string ⟨#[]⟩, .slice none 0 0, .slice none 0 0, .bool false, .string ⟨#[]⟩, .slice none 0 0, .int .i64 0, .slice none 0 0, .string ⟨#[]⟩, .bool false] (wk.toNat * 26)) 120)
          try replace hnet := hnet.alloc (.cells (madeCells #[.int .i64 0, .int .i64 0, .int .i64 0, .string ⟨#[]⟩, .string ⟨#[]⟩, .slice none 0 0, .string ⟨#[]⟩, .bool false, .string ⟨#[]⟩, .string ⟨#[]⟩, .slice none 0 0, .string ⟨#[]⟩, .bool false, .int .i64 0, .int .i64 0, .int .i64 0, .string ⟨#[]⟩, .slice none 0 0, .slice none 0 0, .bool false, .string ⟨#[]⟩, .slice none 0 0, .int .i64 0, .slice none 0 0, .string ⟨#[]⟩, .bool false] (wk.toNat * 26)) 120)
          try replace hc9' := hc9'.alloc (.cells (madeCells #[.int .i64 0, .int .i64 0, .int .i64 0, .string ⟨#[]⟩, .string ⟨#[]⟩, .slice none 0 0, .string ⟨#[]⟩, .bool false, .string ⟨#[]⟩, .string ⟨#[]⟩, .slice none 0 0, .string ⟨#[]⟩, .bool false, .int .i64 0, .int .i64 0, .int .i64 0, .string ⟨#[]⟩, .slice none 0 0, .slice none 0 0, .bool false, .string ⟨#[]⟩, .slice none 0 0, .int .i64 0, .slice none 0 0, .string ⟨#[]⟩, .bool false] (wk.toNat * 26)) 120)
          try simp only [Act.put, List.setIfInBounds_toArray, List.set_cons_zero, List.set_cons_succ]
          refine u_does (by rfl) (fun K hK => ?_)
          go_simp
          refine (queueNew_any _ c.jobs).mono (Hid.out ?_)
          refine Lib.hid ?_
          rintro e w11 ⟨gq, rq, nq, rfl, _, _, _, _, _, hf11⟩
          refine hK _ _ hf11 ?_
          replace hcur := hcur.trans hf11 (fun _ _ h => h)
          try replace hnet := hnet.fr hf11 id
          try simp only [Act.put, List.setIfInBounds_toArray, List.set_cons_zero, List.set_cons_succ]
          refine u_reads ?_ (by rfl) (fun w' hR => ?_) ?_
          rotate_left
          · (go_simp; try with_reducible rfl)
          simp only [Act.put, List.setIfInBounds_toArray, List.set_cons_zero, List.set_cons_succ]
          refine u_does (by rfl) (fun K hK => ?_)
          go_simp
          have hs := (hf08.trans hcur (fun _ _ h => h)).size
          have hlt := hnet.lt
          refine hK _ _ ?hq ?_
          case hq => exact (Fr.refl _ _).alloc _
          try simp only [Act.put, List.setIfInBounds_toArray, List.set_cons_zero, List.set_cons_succ]
          refine u_reads ?_ (by rfl) (fun w' hR => ?_) ?_
          rotate_left
          · (go_simp; try with_reducible rfl)
          simp only [Act.put, List.setIfInBounds_toArray, List.set_cons_zero, List.set_cons_succ]
          refine u_end ?_
          go_wp2_with fail
          go_ret
          try simp only [World.size_alloc, drew_size] at hgN
          try simp only [World.size_alloc, drew_size] at hs
          try simp only [World.size_alloc, drew_size] at hlt
          refine newSrv_mk rfl (blk_new_at ?h0 _ _) (hnet.alloc _) ?h1 ?h2 ?h3 ?c0 rfl rfl rfl (hf08.trans (hcur.alloc _) (fun _ _ h => h))
          case h0 => simp
          case h1 => omega
          case h2 => (try simp only [World.size_alloc, drew_size]); omega
          case h3 => (try simp only [World.size_alloc, drew_size]); omega
          case c0 => first | rfl | simp
      · go_simp
        refine hK _ _ ?hq ?_
        case hq => exact (Fr.refl _ _).alloc _
        replace hcur := hcur.alloc (.cells (madeCells #[.int .i64 0, .int .i64 0, .int .i64 0, .string ⟨#[]⟩, .string ⟨#[]⟩, .slice none 0 0, .string ⟨#[]⟩, .bool false, .string ⟨#[]⟩, .string ⟨#[]⟩, .slice none 0 0, .string ⟨#[]⟩, .bool false, .int .i64 0, .int .i64 0, .int .i64 0, .string ⟨#[]⟩, .slice none 0 0, .slice none 0 0, .bool false, .string ⟨#[]⟩, .slice none 0 0, .int .i64 0, .slice none 0 0, .string ⟨#[]⟩, .bool false] (wk.toNat * 26)) 120)
        try replace hnet := hnet.alloc (.cells (madeCells #[.int .i64 0, .int .i64 0, .int .i64 0, .string ⟨#[]⟩, .string ⟨#[]⟩, .slice none 0 0, .string ⟨#[]⟩, .bool false, .string ⟨#[]⟩, .string ⟨#[]⟩, .slice none 0 0, .string ⟨#[]⟩, .bool false, .int .i64 0, .int .i64 0, .int .i64 0, .string ⟨#[]⟩, .slice none 0 0, .slice none 0 0, .bool false, .string ⟨#[]⟩, .slice none 0 0, .int .i64 0, .slice none 0 0, .string ⟨#[]⟩, .bool false] (wk.toNat * 26)) 120)
        try replace hc9' := hc9'.alloc (.cells (madeCells #[.int .i64 0, .int .i64 0, .int .i64 0, .string ⟨#[]⟩, .string ⟨#[]⟩, .slice none 0 0, .string ⟨#[]⟩, .bool false, .string ⟨#[]⟩, .string ⟨#[]⟩, .slice none 0 0, .string ⟨#[]⟩, .bool false, .int .i64 0, .int .i64 0, .int .i64 0, .string ⟨#[]⟩, .slice none 0 0, .slice none 0 0, .bool false, .string ⟨#[]⟩, .slice none 0 0, .int .i64 0, .slice none 0 0, .string ⟨#[]⟩, .bool false] (wk.toNat * 26)) 120)
        try simp only [Act.put, List.setIfInBounds_toArray, List.set_cons_zero, List.set_cons_succ]
        refine u_does (by rfl) (fun K hK => ?_)
        go_simp
        refine (handleNew_any _ _ (HHw.out _ hcur) c.token A9 c9 FR (hr9.fr hc9' (fun _ _ h => h)) hlen8 hsm8).mono (Hid.out ?_)
        refine Lib.hid ?_
        rintro e w10 ⟨gw, rfl, hgw, hf10⟩
        refine hK _ _ hf10 ?_
        replace hcur := hcur.trans hf10 (fun _ _ h => h)
        try replace hnet := hnet.fr hf10 id
        try simp only [Act.put, List.setIfInBounds_toArray, List.set_cons_zero, List.set_cons_succ]
        refine u_does (by rfl) (fun K hK => ?_)
        go_simp
        refine (queueNew_any _ c.jobs).mono (Hid.out ?_)
        refine Lib.hid ?_
        rintro e w11 ⟨gq, rq, nq, rfl, _, _, _, _, _, hf11⟩
        refine hK _ _ hf11 ?_
        replace hcur := hcur.trans hf11 (fun _ _ h => h)
        try replace hnet := hnet.fr hf11 id
        try simp only [Act.put, List.setIfInBounds_toArray, List.set_cons_zero, List.set_cons_succ]
        refine u_reads ?_ (by rfl) (fun w' hR => ?_) ?_
        rotate_left
        · (go_simp; try with_reducible rfl)
        simp only [Act.put, List.setIfInBounds_toArray, List.set_cons_zero, List.set_cons_succ]
        refine u_does (by rfl) (fun K hK => ?_)
        go_simp
        have hs := (hf08.trans hcur (fun _ _ h => h)).size
        have hlt := hnet.lt
        refine hK _ _ ?hq ?_
        case hq => exact (Fr.refl _ _).alloc _
        try simp only [Act.put, List.setIfInBounds_toArray, List.set_cons_zero, List.set_cons_succ]
        refine u_reads ?_ (by rfl) (fun w' hR => ?_) ?_
        rotate_left
        · (go_simp; try with_reducible rfl)
        simp only [Act.put, List.setIfInBounds_toArray, List.set_cons_zero, List.set_cons_succ]
        refine u_end ?_
        go_wp2_with fail
        go_ret
        try simp only [World.size_alloc, drew_size] at hgN
        try simp only [World.size_alloc, drew_size] at hs
        try simp only [World.size_alloc, drew_size] at hlt
        refine newSrv_mk rfl (blk_new_at ?h0 _ _) (hnet.alloc _) ?h1 ?h2 ?h3 ?c0 rfl rfl rfl (hf08.trans (hcur.alloc _) (fun _ _ h => h))
        case h0 => simp
        case h1 => omega
        case h2 => (try simp only [World.size_alloc, drew_size]); omega
        case h3 => (try simp only [World.size_alloc, drew_size]); omega
        case c0 => first | rfl | simp
    · go_simp
      refine (handleNew_any _ _ (HHw.out _ hcur) c.token A9 c9 FR (hr9.fr hc9' (fun _ _ h => h)) hlen8 hsm8).mono (Hid.out ?_)
      refine Lib.hid ?_
      rintro e w10 ⟨gw, rfl, hgw, hf10⟩
      refine hK _ _ hf10 ?_
      replace hcur := hcur.trans hf10 (fun _ _ h => h)
      try replace hnet := hnet.fr hf10 id
      try simp only [Act.put, List.setIfInBounds_toArray, List.set_cons_zero, List.set_cons_succ]
      refine u_three (by rfl) (by rfl) (by rfl) (fun K hK => ?_) (fun K hK => ?_) (fun K hK => ?_)
      · go_simp
        refine hK _ _ ?hq ?_
        case hq => exact (Fr.refl _ _).alloc _
        have hgN := hcur.size
        obtain ⟨hcur, hnet⟩ := alloc_after hcur 56 #[.slice none 0 0, .slice none 0 0]
        try replace hc9' := hc9'.alloc (.cells #[.slice none 0 0, .slice none 0 0] 56)
        try simp only [Act.put, List.setIfInBounds_toArray, List.set_cons_zero, List.set_cons_succ]
        refine u_two (by rfl) (by rfl) (fun K hK => ?_) (fun K hK => ?_)
        · go_simp
          refine (queueNew_any _ c.jobs).mono (Hid.out ?_)
          refine Lib.hid ?_
          rintro e w11 ⟨gq, rq, nq, rfl, _, _, _, _, _, hf11⟩
          refine hK _ _ hf11 ?_
          replace hcur := hcur.trans hf11 (fun _ _ h => h)
          try replace hnet := hnet.fr hf11 id
          try simp only [Act.put, List.setIfInBounds_toArray, List.set_cons_zero, List.set_cons_succ]
          refine u_does (by rfl) (fun K hK => ?_)
          go_simp
          refine hK _ _ ?hq ?_
          case hq => exact (Fr.refl _ _).alloc _
          replace hcur := hcur.alloc (.cells (madeCells #[.int .i64 0, .int .i64 0, .int .i64 0, .string ⟨#[]⟩, .string ⟨#[]⟩, .slice none 0 0, .string ⟨#[]⟩, .bool false, .string ⟨#[]⟩, .string ⟨#[]⟩, .slice none 0 0, .string ⟨#[]⟩, .bool false, .int .i64 0, .int .i64 0, .int .i64 0, .string ⟨#[]⟩, .slice none 0 0, .slice none 0 0, .bool false, .string ⟨#[]⟩, .slice none 0 0, .int .i64 0, .slice none 0 0, .string ⟨#[]⟩, .bool false] (wk.toNat * 26)) 120)
          try replace hnet := hnet.alloc (.cells (madeCells #[.int .i64 0, .int .i64 0, .int .i64 0, .string ⟨#[]⟩, .string ⟨#[]⟩, .slice none 0 0, .string ⟨#[]⟩, .bool false, .string ⟨#[]⟩, .string ⟨#[]⟩, .slice none 0 0, .string ⟨#[]⟩, .bool false, .int .i64 0, .int .i64 0, .int .i64 0, .string ⟨#[]⟩, .slice none 0 0, .slice none 0 0, .bool false, .string ⟨#[]⟩, .slice none 0 0, .int .i64 0, .slice none 0 0, .string ⟨#[]⟩, .bool false] (wk.toNat * 26)) 120)
          try replace hc9' := hc9'.alloc (.cells (madeCells #[.int .i64 0, .int .i64 0, .int .i64 0, .string ⟨#[]⟩, .string ⟨#[]⟩, .slice none 0 0, .string ⟨#[]⟩, .bool false, .string ⟨#[]⟩, .string ⟨#[]⟩, .slice none 0 0, .string ⟨#[]⟩, .bool false, .int .i64 0, .int .i64 0, .int .i64 0, .string ⟨#[]⟩, .slice none 0 0, .slice none 0 0, .bool false, .string ⟨#[]⟩, .slice none 0 0, .int .i64 0, .slice none 0 0, .string ⟨#[]⟩, .bool false] (wk.toNat * 26)) 120)
          try simp only [Act.put, List.setIfInBounds_toArray, List.set_cons_zero, List.set_cons_succ]
          refine u_reads ?_ (by rfl) (fun w' hR => ?_) ?_
          rotate_left
          · (go_simp; try with_reducible rfl)
          simp only [Act.put, List.setIfInBounds_toArray, List.set_cons_zero, List.set_cons_succ]
          refine u_does (by rfl) (fun K hK => ?_)
          go_simp
          have hs := (hf08.trans hcur (fun _ _ h => h)).size
          have hlt := hnet.lt
          refine hK _ _ ?hq ?_
          case hq => exact (Fr.refl _ _).alloc _
          try simp only [Act.put, List.setIfInBounds_toArray, List.set_cons_zero, List.set_cons_succ]
          refine u_reads ?_ (by rfl) (fun w' hR => ?_) ?_
          rotate_left
          · (go_simp; try with_reducible rfl)
          simp only [Act.put, List.setIfInBounds_toArray, List.set_cons_zero, List.set_cons_succ]
          refine u_end ?_
          go_wp2_with fail
          go_ret
          try simp only [World.size_alloc, drew_size] at hgN
          try simp only [World.size_alloc, drew_size] at hs
          try simp only [World.size_alloc, drew_size] at hlt
          refine newSrv_mk rfl (blk_new_at ?h0 _ _) (hnet.alloc _) ?h1 ?h2 ?h3 ?c0 rfl rfl rfl (hf08.trans (hcur.alloc _) (fun _ _ h => h))
          case h0 => simp
          case h1 => omega
          case h2 => (try simp only [World.size_alloc, drew_size]); omega
          case h3 => (try simp only [World.size_alloc, drew_size]); omega
          case c0 => first | rfl | simp
        · go_simp
          refine hK _ _ ?hq ?_
          case hq => exact (Fr.refl _ _).alloc _
          replace hcur := hcur.alloc (.cells (madeCells #[.int .i64 0, .int .i64 0, .int .i64 0, .string ⟨#[]⟩, .string ⟨#[]⟩, .slice none 0 0, .string ⟨#[]⟩, .bool false, .string ⟨#[]⟩, .string ⟨#[]⟩, .slice none 0 0, .string ⟨#[]⟩, .bool false, .int .i64 0, .int .i64 0, .int .i64 0, .string ⟨#[]⟩, .slice none 0 0, .slice none 0 0, .bool false, .string ⟨#[]⟩, .slice none 0 0, .int .i64 0, .slice none 0 0, .string ⟨#[]⟩, .bool false] (wk.toNat * 26)) 120)
          try replace hnet := hnet.alloc (.cells (madeCells #[.int .i64 0, .int .i64 0, .int .i64 0, .string ⟨#[]⟩, .string ⟨#[]⟩, .slice none 0 0, .string ⟨#[]⟩, .bool false, .string ⟨#[]⟩, .string ⟨#[]⟩, .slice none 0 0, .string ⟨#[]⟩, .bool false, .int .i64 0, .int .i64 0, .int .i64 0, .string ⟨#[]⟩, .slice none 0 0, .slice none 0 0, .bool false, .string ⟨#[]⟩, .slice none 0 0, .int .i64 0, .slice none 0 0, .string ⟨#[]⟩, .bool false] (wk.toNat * 26)) 120)
          try replace hc9' := hc9'.alloc (.cells (madeCells #[.int .i64 0, .int .i64 0, .int .i64 0, .string ⟨#[]⟩, .string ⟨#[]⟩, .slice none 0 0, .string ⟨#[]⟩, .bool false, .string ⟨#[]⟩, .string ⟨#[]⟩, .slice none 0 0, .string ⟨#[]⟩, .bool false, .int .i64 0, .int .i64 0, .int .i64 0, .string ⟨#[]⟩, .slice none 0 0, .slice none 0 0, .bool false, .string ⟨#[]⟩, .slice none 0 0, .int .i64 0, .slice none 0 0, .string ⟨#[]⟩, .bool false] (wk.toNat * 26)) 120)
          try simp only [Act.put, List.setIfInBounds_toArray, List.set_cons_zero, List.set_cons_succ]
          refine u_does (by rfl) (fun K hK => ?_)
          go_simp
          refine (queueNew_any _ c.jobs).mono (Hid.out ?_)
          refine Lib.hid ?_
          rintro e w11 ⟨gq, rq, nq, rfl, _, _, _, _, _, hf11⟩
          refine hK _ _ hf11 ?_
          replace hcur := hcur.trans hf11 (fun _ _ h => h)
          try replace hnet := hnet.fr hf11 id
          try simp only [Act.put, List.setIfInBounds_toArray, List.set_cons_zero, List.set_cons_succ]
          refine u_reads ?_ (by rfl) (fun w' hR => ?_) ?_
          rotate_left
          · (go_simp; try with_reducible rfl)
          simp only [Act.put, List.setIfInBounds_toArray, List.set_cons_zero, List.set_cons_succ]
          refine u_does (by rfl) (fun K hK => ?_)
          go_simp
          have hs := (hf08.trans hcur (fun _ _ h => h)).size
          have hlt := hnet.lt
          refine hK _ _ ?hq ?_
          case hq => exact (Fr.refl _ _).alloc _
          try simp only [Act.put, List.setIfInBounds_toArray, List.set_cons_zero, List.set_cons_succ]
          refine u_reads ?_ (by rfl) (fun w' hR => ?_) ?_
          rotate_left
          · (go_simp; try with_reducible rfl)
          simp only [Act.put, List.setIfInBounds_toArray, List.set_cons_zero, List.set_cons_succ]
          refine u_end ?_
          go_wp2_with fail
          go_ret
          try simp only [World.size_alloc, drew_size] at hgN
          try simp only [World.size_alloc, drew_size] at hs
          try simp only [World.size_alloc, drew_size] at hlt
          refine newSrv_mk rfl (blk_new_at ?h0 _ _) (hnet.alloc _) ?h1 ?h2 ?h3 ?c0 rfl rfl rfl (hf08.trans (hcur.alloc _) (fun _ _ h => h))
          case h0 => simp
          case h1 => omega
          case h2 => (try simp only [World.size_alloc, drew_size]); omega
          case h3 => (try simp only [World.size_alloc, drew_size]); omega
          case c0 => first | rfl | simp
      · go_simp
        refine (queueNew_any _ c.jobs).mono (Hid.out ?_)
        refine Lib.hid ?_
        rintro e w11 ⟨gq, rq, nq, rfl, _, _, _, _, _, hf11⟩
        refine hK _ _ hf11 ?_
        replace hcur := hcur.trans hf11 (fun _ _ h => h)
        try replace hnet := hnet.fr hf11 id
        try simp only [Act.put, List.setIfInBounds_toArray, List.set_cons_zero, List.set_cons_succ]
        refine u_two (by rfl) (by rfl) (fun K hK => ?_) (fun K hK => ?_)
        · go_simp
          refine hK _ _ ?hq ?_
          case hq => exact (Fr.refl _ _).alloc _
          have hgN := hcur.size
          obtain ⟨hcur, hnet⟩ := alloc_after hcur 56 #[.slice none 0 0, .slice none 0 0]
          try replace hc9' := hc9'.alloc (.cells #[.slice none 0 0, .slice none 0 0] 56)
          try simp only [Act.put, List.setIfInBounds_toArray, List.set_cons_zero, List.set_cons_succ]
          refine u_does (by rfl) (fun K hK => ?_)
          go_simp
          refine hK _ _ ?hq ?_
          case hq => exact (Fr.refl _ _).alloc _
          replace hcur := hcur.alloc (.cells (madeCells #[.int .i64 0, .int .i64 0, .int .i64 0, .string ⟨#[]⟩, .string ⟨#[]⟩, .slice none 0 0, .string ⟨#[]⟩, .bool false, .string ⟨#[]⟩, .string ⟨#[]⟩, .slice none 0 0, .string ⟨#[]⟩, .bool false, .int .i64 0, .int .i64 0, .int .i64 0, .string ⟨#[]⟩, .slice none 0 0, .slice none 0 0, .bool false, .string ⟨#[]⟩, .slice none 0 0, .int .i64 0, .slice none 0 0, .string ⟨#[]⟩, .bool false] (wk.toNat * 26)) 120)
          try replace hnet := hnet.alloc (.cells (madeCells #[.int .i64 0, .int .i64 0, .int .i64 0, .string ⟨#[]⟩, .string ⟨#[]⟩, .slice none 0 0, .string ⟨#[]⟩, .bool false, .string ⟨#[]⟩, .string ⟨#[]⟩, .slice none 0 0, .string ⟨#[]⟩, .bool false, .int .i64 0, .int .i64 0, .int .i64 0, .string ⟨#[]⟩, .slice none 0 0, .slice none 0 0, .bool false, .string ⟨#[]⟩, .slice none 0 0, .int .i64 0, .slice none 0 0, .string ⟨#[]⟩, .bool false] (wk.toNat * 26)) 120)
          try replace hc9' := hc9'.alloc (.cells (madeCells #[.int .i64 0, .int .i64 0, .int .i64 0, .string ⟨#[]⟩, .string ⟨#[]⟩, .slice none 0 0, .string ⟨#[]⟩, .bool false, .string ⟨#[]⟩, .string ⟨#[]⟩, .slice none 0 0, .string ⟨#[]⟩, .bool false, .int .i64 0, .int .i64 0, .int .i64 0, .string ⟨#[]⟩, .slice none 0 0, .slice none 0 0, .bool false, .string ⟨#[]⟩, .slice none 0 0, .int .i64 0, .slice none 0 0, .string ⟨#[]⟩, .bool false] (wk.toNat * 26)) 120)
          try simp only [Act.put, List.setIfInBounds_toArray, List.set_cons_zero, List.set_cons_succ]
          refine u_reads ?_ (by rfl) (fun w' hR => ?_) ?_
          rotate_left
          · (go_simp; try with_reducible rfl)
          simp only [Act.put, List.setIfInBounds_toArray, List.set_cons_zero, List.set_cons_succ]
          refine u_does (by rfl) (fun K hK => ?_)
          go_simp
          have hs := (hf08.trans hcur (fun _ _ h => h)).size
          have hlt := hnet.lt
          refine hK _ _ ?hq ?_
          case hq => exact (Fr.refl _ _).alloc _
          try simp only [Act.put, List.setIfInBounds_toArray, List.set_cons_zero, List.set_cons_succ]
          refine u_reads ?_ (by rfl) (fun w' hR => ?_) ?_
          rotate_left
          · (go_simp; try with_reducible rfl)
          simp only [Act.put, List.setIfInBounds_toArray, List.set_cons_zero, List.set_cons_succ]
          refine u_end ?_
          go_wp2_with fail
          go_ret
          try simp only [World.size_alloc, drew_size] at hgN
          try simp only [World.size_alloc, drew_size] at hs
          try simp only [World.size_alloc, drew_size] at hlt
          refine newSrv_mk rfl (blk_new_at ?h0 _ _) (hnet.alloc _) ?h1 ?h2 ?h3 ?c0 rfl rfl rfl (hf08.trans (hcur.alloc _) (fun _ _ h => h))
          case h0 => simp
          case h1 => omega
          case h2 => (try simp only [World.size_alloc, drew_size]); omega
          case h3 => (try simp only [World.size_alloc, drew_size]); omega
          case c0 => first | rfl | simp
        · go_simp
          refine hK _ _ ?hq ?_
          case hq => exact (Fr.refl _ _).alloc _
          replace hcur := hcur.alloc (.cells (madeCells #[.int .i64 0, .int .i64 0, .int .i64 0, .string ⟨#[]⟩, .string ⟨#[]⟩, .slice none 0 0, .string ⟨#[]⟩, .bool false, .string ⟨#[]⟩, .string ⟨#[]⟩, .slice none 0 0, .string ⟨#[]⟩, .bool false, .int .i64 0, .int .i64 0, .int .i64 0, .string ⟨#[]⟩, .slice none 0 0, .slice none 0 0, .bool false, .string ⟨#[]⟩, .slice none 0 0, .int .i64 0, .slice none 0 0, .string ⟨#[]⟩, .bool false] (wk.toNat * 26)) 120)
          try replace hnet := hnet.alloc (.cells (madeCells #[.int .i64 0, .int .i64 0, .int .i64 0, .string ⟨#[]⟩, .string ⟨#[]⟩, .slice none 0 0, .string ⟨#[]⟩, .bool false, .string ⟨#[]⟩, .string ⟨#[]⟩, .slice none 0 0, .string ⟨#[]⟩, .bool false, .int .i64 0, .int .i64 0, .int .i64 0, .string ⟨#[]⟩, .slice none 0 0, .slice none 0 0, .bool false, .string ⟨#[]⟩, .slice none 0 0, .int .i64 0, .slice none 0 0, .string ⟨#[]⟩, .bool false] (wk.toNat * 26)) 120)
          try replace hc9' := hc9'.alloc (.cells (madeCells #[.int .i64 0, .int .i64 0, .int .i64 0, .string ⟨#[]⟩, .string ⟨#[]⟩, .slice none 0 0, .string ⟨#[]⟩, .bool false, .string ⟨#[]⟩, .string ⟨#[]⟩, .slice none 0 0, .string ⟨#[]⟩, .bool false, .int .i64 0, .int .i64 0, .int .i64 0, .string ⟨#[]⟩, .slice none 0 0, .slice none 0 0, .bool false, .string ⟨#[]⟩, .slice none 0 0, .int .i64 0, .slice none 0 0, .string ⟨#[]⟩, .bool false] (wk.toNat * 26)) 120)
          try simp only [Act.put, List.setIfInBounds_toArray, List.set_cons_zero, List.set_cons_succ]
          refine u_does (by rfl) (fun K hK => ?_)
          go_simp
          refine hK _ _ ?hq ?_
          case hq => exact (Fr.refl _ _).alloc _
          have hgN := hcur.size
          obtain ⟨hcur, hnet⟩ := alloc_after hcur 56 #[.slice none 0 0, .slice none 0 0]
          try replace hc9' := hc9'.alloc (.cells #[.slice none 0 0, .slice none 0 0] 56)
          try simp only [Act.put, List.setIfInBounds_toArray, List.set_cons_zero, List.set_cons_succ]
          refine u_reads ?_ (by rfl) (fun w' hR => ?_) ?_
          rotate_left
          · (go_simp; try with_reducible rfl)
          simp only [Act.put, List.setIfInBounds_toArray, List.set_cons_zero, List.set_cons_succ]
          refine u_does (by rfl) (fun K hK => ?_)
          go_simp
          have hs := (hf08.trans hcur (fun _ _ h => h)).size
          have hlt := hnet.lt
          refine hK _ _ ?hq ?_
          case hq => exact (Fr.refl _ _).alloc _
          try simp only [Act.put, List.setIfInBounds_toArray, List.set_cons_zero, List.set_cons_succ]
          refine u_reads ?_ (by rfl) (fun w' hR => ?_) ?_
          rotate_left
          · (go_simp; try with_reducible rfl)
          simp only [Act.put, List.setIfInBounds_toArray, List.set_cons_zero, List.set_cons_succ]
          refine u_end ?_
          go_wp2_with fail
          go_ret
          try simp only [World.size_alloc, drew_size] at hgN
          try simp only [World.size_alloc, drew_size] at hs
          try simp only [World.size_alloc, drew_size] at hlt
          refine newSrv_mk rfl (blk_new_at ?h0 _ _) (hnet.alloc _) ?h1 ?h2 ?h3 ?c0 rfl rfl rfl (hf08.trans (hcur.alloc _) (fun _ _ h => h))
          case h0 => simp
          case h1 => omega
          case h2 => (try simp only [World.size_alloc, drew_size]); omega
          case h3 => (try simp only [World.size_alloc, drew_size]); omega
          case c0 => first | rfl | simp
      · go_simp
        refine hK _ _ ?hq ?_
        case hq => exact (Fr.refl _ _).alloc _
        replace hcur := hcur.alloc (.cells (madeCells #[.int .i64 0, .int .i64 0, .int .i64 0, .string ⟨#[]⟩, .string ⟨#[]⟩, .slice none 0 0, .string ⟨#[]⟩, .bool false, .string ⟨#[]⟩, .string ⟨#[]⟩, .slice none 0 0, .string ⟨#[]⟩, .bool false, .int .i64 0, .int .i64 0, .int .i64 0, .string ⟨#[]⟩, .slice none 0 0, .slice none 0 0, .bool false, .string ⟨#[]⟩, .slice none 0 0, .int .i64 0, .slice none 0 0, .string ⟨#[]⟩, .bool false] (wk.toNat * 26)) 120)
        try replace hnet := hnet.alloc (.cells (madeCells #[.int .i64 0, .int .i64 0, .int .i64 0, .string ⟨#[]⟩, .string ⟨#[]⟩, .slice none 0 0, .string ⟨#[]⟩, .bool false, .string ⟨#[]⟩, .string ⟨#[]⟩, .slice none 0 0, .string ⟨#[]⟩, .bool false, .int .i64 0, .int .i64 0, .int .i64 0, .string ⟨#[]⟩, .slice none 0 0, .slice none 0 0, .bool false, .string ⟨#[]⟩, .slice none 0 0, .int .i64 0, .slice none 0 0, .string ⟨#[]⟩, .bool false] (wk.toNat * 26)) 120)
        try replace hc9' := hc9'.alloc (.cells (madeCells #[.int .i64 0, .int .i64 0, .int .i64 0, .string ⟨#[]⟩, .string ⟨#[]⟩, .slice none 0 0, .string ⟨#[]⟩, .bool false, .string ⟨#[]⟩, .string ⟨#[]⟩, .slice none 0 0, .string ⟨#[]⟩, .bool false, .int .i64 0, .int .i64 0, .int .i64 0, .string ⟨#[]⟩, .slice none 0 0, .slice none 0 0, .bool false, .string ⟨#[]⟩, .slice none 0 0, .int .i64 0, .slice none 0 0, .string ⟨#[]⟩, .bool false] (wk.toNat * 26)) 120)
        try simp only [Act.put, List.setIfInBounds_toArray, List.set_cons_zero, List.set_cons_succ]
        refine u_two (by rfl) (by rfl) (fun K hK => ?_) (fun K hK => ?_)
        · go_simp
          refine hK _ _ ?hq ?_
          case hq => exact (Fr.refl _ _).alloc _
          have hgN := hcur.size
          obtain ⟨hcur, hnet⟩ := alloc_after hcur 56 #[.slice none 0 0, .slice none 0 0]
          try replace hc9' := hc9'.alloc (.cells #[.slice none 0 0, .slice none 0 0] 56)
          try simp only [Act.put, List.setIfInBounds_toArray, List.set_cons_zero, List.set_cons_succ]
          refine u_does (by rfl) (fun K hK => ?_)
          go_simp
          refine (queueNew_any _ c.jobs).mono (Hid.out ?_)
          refine Lib.hid ?_
          rintro e w11 ⟨gq, rq, nq, rfl, _, _, _, _, _, hf11⟩
          refine hK _ _ hf11 ?_
          replace hcur := hcur.trans hf11 (fun _ _ h => h)
          try replace hnet := hnet.fr hf11 id
          try simp only [Act.put, List.setIfInBounds_toArray, List.set_cons_zero, List.set_cons_succ]
          refine u_reads ?_ (by rfl) (fun w' hR => ?_) ?_
          rotate_left
          · (go_simp; try with_reducible rfl)
          simp only [Act.put, List.setIfInBounds_toArray, List.set_cons_zero, List.set_cons_succ]
          refine u_does (by rfl) (fun K hK => ?_)
          go_simp
          have hs := (hf08.trans hcur (fun _ _ h => h)).size
          have hlt := hnet.lt
          refine hK _ _ ?hq ?_
          case hq => exact (Fr.refl _ _).alloc _
          try simp only [Act.put, List.setIfInBounds_toArray, List.set_cons_zero, List.set_cons_succ]
          refine u_reads ?_ (by rfl) (fun w' hR => ?_) ?_
          rotate_left
          · (go_simp; try with_reducible rfl)
          simp only [Act.put, List.setIfInBounds_toArray, List.set_cons_zero, List.set_cons_succ]
          refine u_end ?_
          go_wp2_with fail
          go_ret
          try simp only [World.size_alloc, drew_size] at hgN
          try simp only [World.size_alloc, drew_size] at hs
          try simp only [World.size_alloc, drew_size] at hlt
          refine newSrv_mk rfl (blk_new_at ?h0 _ _) (hnet.alloc _) ?h1 ?h2 ?h3 ?c0 rfl rfl rfl (hf08.trans (hcur.alloc _) (fun _ _ h => h))
          case h0 => simp
          case h1 => omega
          case h2 => (try simp only [World.size_alloc, drew_size]); omega
          case h3 => (try simp only [World.size_alloc, drew_size]); omega
          case c0 => first | rfl | simp
        · go_simp
          refine (queueNew_any _ c.jobs).mono (Hid.out ?_)
          refine Lib.hid ?_
          rintro e w11 ⟨gq, rq, nq, rfl, _, _, _, _, _, hf11⟩
          refine hK _ _ hf11 ?_
          replace hcur := hcur.trans hf11 (fun _ _ h => h)
          try replace hnet := hnet.fr hf11 id
          try simp only [Act.put, List.setIfInBounds_toArray, List.set_cons_zero, List.set_cons_succ]
          refine u_does (by rfl) (fun K hK => ?_)
          go_simp
          refine hK _ _ ?hq ?_
          case hq => exact (Fr.refl _ _).alloc _
          have hgN := hcur.size
          obtain ⟨hcur, hnet⟩ := alloc_after hcur 56 #[.slice none 0 0, .slice none 0 0]
          try replace hc9' := hc9'.alloc (.cells #[.slice none 0 0, .slice none 0 0] 56)
          try simp only [Act.put, List.setIfInBounds_toArray, List.set_cons_zero, List.set_cons_succ]
          refine u_reads ?_ (by rfl) (fun w' hR => ?_) ?_
          rotate_left
          · (go_simp; try with_reducible rfl)
          simp only [Act.put, List.setIfInBounds_toArray, List.set_cons_zero, List.set_cons_succ]
          refine u_does (by rfl) (fun K hK => ?_)
          go_simp
          have hs := (hf08.trans hcur (fun _ _ h => h)).size
          have hlt := hnet.lt
          refine hK _ _ ?hq ?_
          case hq => exact (Fr.refl _ _).alloc _
          try simp only [Act.put, List.setIfInBounds_toArray, List.set_cons_zero, List.set_cons_succ]
          refine u_reads ?_ (by rfl) (fun w' hR => ?_) ?_
          rotate_left
          · (go_simp; try with_reducible rfl)
          simp only [Act.put, List.setIfInBounds_toArray, List.set_cons_zero, List.set_cons_succ]
          refine u_end ?_
          go_wp2_with fail
          go_ret
          try simp only [World.size_alloc, drew_size] at hgN
          try simp only [World.size_alloc, drew_size] at hs
          try simp only [World.size_alloc, drew_size] at hlt
          refine newSrv_mk rfl (blk_new_at ?h0 _ _) (hnet.alloc _) ?h1 ?h2 ?h3 ?c0 rfl rfl rfl (hf08.trans (hcur.alloc _) (fun _ _ h => h))
          case h0 => simp
          case h1 => omega
          case h2 => (try simp only [World.size_alloc, drew_size]); omega
          case h3 => (try simp only [World.size_alloc, drew_size]); omega
          case c0 => first | rfl | simp
    · go_simp
      refine hK _ _ ?hq ?_
      case hq => exact (Fr.refl _ _).alloc _
      replace hcur := hcur.alloc (.cells (madeCells #[.int .i64 0, .int .i64 0, .int .i64 0, .string ⟨#[]⟩, .string ⟨#[]⟩, .slice none 0 0, .string ⟨#[]⟩, .bool false, .string ⟨#[]⟩, .string ⟨#[]⟩, .slice none 0 0, .string ⟨#[]⟩, .bool false, .int .i64 0, .int .i64 0, .int .i64 0, .string ⟨#[]⟩, .slice none 0 0, .slice none 0 0, .bool false, .string ⟨#[]⟩, .slice none 0 0, .int .i64 0, .slice none 0 0, .string ⟨#[]⟩, .bool false] (wk.toNat * 26)) 120)
      try replace hnet := hnet.alloc (.cells (madeCells #[.int .i64 0, .int .i64 0, .int .i64 0, .string ⟨#[]⟩, .string ⟨#[]⟩, .slice none 0 0, .string ⟨#[]⟩, .bool false, .string ⟨#[]⟩, .string ⟨#[]⟩, .slice none 0 0, .string ⟨#[]⟩, .bool false, .int .i64 0, .int .i64 0, .int .i64 0, .string ⟨#[]⟩, .slice none 0 0, .slice none 0 0, .bool false, .string ⟨#[]⟩, .slice none 0 0, .int .i64 0, .slice none 0 0, .string ⟨#[]⟩, .bool false] (wk.toNat * 26)) 120)
      try replace hc9' := hc9'.alloc (.cells (madeCells #[.int .i64 0, .int .i64 0, .int .i64 0, .string ⟨#[]⟩, .string ⟨#[]⟩, .slice none 0 0, .string ⟨#[]⟩, .bool false, .string ⟨#[]⟩, .string ⟨#[]⟩, .slice none 0 0, .string ⟨#[]⟩, .bool false, .int .i64 0, .int .i64 0, .int .i64 0, .string ⟨#[]⟩, .slice none 0 0, .slice none 0 0, .bool false, .string ⟨#[]⟩, .slice none 0 0, .int .i64 0, .slice none 0 0, .string ⟨#[]⟩, .bool false] (wk.toNat * 26)) 120)
      try simp only [Act.put, List.setIfInBounds_toArray, List.set_cons_zero, List.set_cons_succ]
      refine u_two (by rfl) (by rfl) (fun K hK => ?_) (fun K hK => ?_)
      · go_simp
        refine hK _ _ ?hq ?_
        case hq => exact (Fr.refl _ _).alloc _
        have hgN := hcur.size
        obtain ⟨hcur, hnet⟩ := alloc_after hcur 56 #[.slice none 0 0, .slice none 0 0]
        try replace hc9' := hc9'.alloc (.cells #[.slice none 0 0, .slice none 0 0] 56)
        try simp only [Act.put, List.setIfInBounds_toArray, List.set_cons_zero, List.set_cons_succ]
        refine u_does (by rfl) (fun K hK => ?_)
        go_simp
        refine (handleNew_any _ _ (HHw.out _ hcur) c.token A9 c9 FR (hr9.fr hc9' (fun _ _ h => h)) hlen8 hsm8).mono (Hid.out ?_)
        refine Lib.hid ?_
        rintro e w10 ⟨gw, rfl, hgw, hf10⟩
        refine hK _ _ hf10 ?_
        replace hcur := hcur.trans hf10 (fun _ _ h => h)
        try replace hnet := hnet.fr hf10 id
        try simp only [Act.put, List.setIfInBounds_toArray, List.set_cons_zero, List.set_cons_succ]
        refine u_does (by rfl) (fun K hK => ?_)
        go_simp
        refine (queueNew_any _ c.jobs).mono (Hid.out ?_)
        refine Lib.hid ?_
        rintro e w11 ⟨gq, rq, nq, rfl, _, _, _, _, _, hf11⟩
        refine hK _ _ hf11 ?_
        replace hcur := hcur.trans hf11 (fun _ _ h => h)
        try replace hnet := hnet.fr hf11 id
        try simp only [Act.put, List.setIfInBounds_toArray, List.set_cons_zero, List.set_cons_succ]
        refine u_reads ?_ (by rfl) (fun w' hR => ?_) ?_
        rotate_left
        · (go_simp; try with_reducible rfl)
        simp only [Act.put, List.setIfInBounds_toArray, List.set_cons_zero, List.set_cons_succ]
        refine u_does (by rfl) (fun K hK => ?_)
        go_simp
        have hs := (hf08.trans hcur (fun _ _ h => h)).size
        have hlt := hnet.lt
        refine hK _ _ ?hq ?_
        case hq => exact (Fr.refl _ _).alloc _
        try simp only [Act.put, List.setIfInBounds_toArray, List.set_cons_zero, List.set_cons_succ]
        refine u_reads ?_ (by rfl) (fun w' hR => ?_) ?_
        rotate_left
        · (go_simp; try with_reducible rfl)
        simp only [Act.put, List.setIfInBounds_toArray, List.set_cons_zero, List.set_cons_succ]
        refine u_end ?_
        go_wp2_with fail
        go_ret
        try simp only [World.size_alloc, drew_size] at hgN
        try simp only [World.size_alloc, drew_size] at hs
        try simp only [World.size_alloc, drew_size] at hlt
        refine newSrv_mk rfl (blk_new_at ?h0 _ _) (hnet.alloc _) ?h1 ?h2 ?h3 ?c0 rfl rfl rfl (hf08.trans (hcur.alloc _) (fun _ _ h => h))
        case h0 => simp
        case h1 => omega
        case h2 => (try simp only [World.size_alloc, drew_size]); omega
        case h3 => (try simp only [World.size_alloc, drew_size]); omega
        case c0 => first | rfl | simp
      · go_simp
        refine (handleNew_any _ _ (HHw.out _ hcur) c.token A9 c9 FR (hr9.fr hc9' (fun _ _ h => h)) hlen8 hsm8).mono (Hid.out ?_)
        refine Lib.hid ?_
        rintro e w10 ⟨gw, rfl, hgw, hf10⟩
        refine hK _ _ hf10 ?_
        replace hcur := hcur.trans hf10 (fun _ _ h => h)
        try replace hnet := hnet.fr hf10 id
        try simp only [Act.put, List.setIfInBounds_toArray, List.set_cons_zero, List.set_cons_succ]
        refine u_two (by rfl) (by rfl) (fun K hK => ?_) (fun K hK => ?_)
        · go_simp
          refine hK _ _ ?hq ?_
          case hq => exact (Fr.refl _ _).alloc _
          have hgN := hcur.size
          obtain ⟨hcur, hnet⟩ := alloc_after hcur 56 #[.slice none 0 0, .slice none 0 0]
          try replace hc9' := hc9'.alloc (.cells #[.slice none 0 0, .slice none 0 0] 56)
          try simp only [Act.put, List.setIfInBounds_toArray, List.set_cons_zero, List.set_cons_succ]
          refine u_does (by rfl) (fun K hK => ?_)
          go_simp
          refine (queueNew_any _ c.jobs).mono (Hid.out ?_)
          refine Lib.hid ?_
          rintro e w11 ⟨gq, rq, nq, rfl, _, _, _, _, _, hf11⟩
          refine hK _ _ hf11 ?_
          replace hcur := hcur.trans hf11 (fun _ _ h => h)
          try replace hnet := hnet.fr hf11 id
          try simp only [Act.put, List.setIfInBounds_toArray, List.set_cons_zero, List.set_cons_succ]
          refine u_reads ?_ (by rfl) (fun w' hR => ?_) ?_
          rotate_left
          · (go_simp; try with_reducible rfl)
          simp only [Act.put, List.setIfInBounds_toArray, List.set_cons_zero, List.set_cons_succ]
          refine u_does (by rfl) (fun K hK => ?_)
          go_simp
          have hs := (hf08.trans hcur (fun _ _ h => h)).size
          have hlt := hnet.lt
          refine hK _ _ ?hq ?_
          case hq => exact (Fr.refl _ _).alloc _
          try simp only [Act.put, List.setIfInBounds_toArray, List.set_cons_zero, List.set_cons_succ]
          refine u_reads ?_ (by rfl) (fun w' hR => ?_) ?_
          rotate_left
          · (go_simp; try with_reducible rfl)
          simp only [Act.put, List.setIfInBounds_toArray, List.set_cons_zero, List.set_cons_succ]
          refine u_end ?_
          go_wp2_with fail
          go_ret
          try simp only [World.size_alloc, drew_size] at hgN
          try simp only [World.size_alloc, drew_size] at hs
          try simp only [World.size_alloc, drew_size] at hlt
          refine newSrv_mk rfl (blk_new_at ?h0 _ _) (hnet.alloc _) ?h1 ?h2 ?h3 ?c0 rfl rfl rfl (hf08.trans (hcur.alloc _) (fun _ _ h => h))
          case h0 => simp
          case h1 => omega
          case h2 => (try simp only [World.size_alloc, drew_size]); omega
          case h3 => (try simp only [World.size_alloc, drew_size]); omega
          case c0 => first | rfl | simp
        · go_simp
          refine (queueNew_any _ c.jobs).mono (Hid.out ?_)
          refine Lib.hid ?_
          rintro e w11 ⟨gq, rq, nq, rfl, _, _, _, _, _, hf11⟩
          refine hK _ _ hf11 ?_
          replace hcur := hcur.trans hf11 (fun _ _ h => h)
          try replace hnet := hnet.fr hf11 id
          try simp only [Act.put, List.setIfInBounds_toArray, List.set_cons_zero, List.set_cons_succ]
          refine u_does (by rfl) (fun K hK => ?_)
          go_simp
          refine hK _ _ ?hq ?_
          case hq => exact (Fr.refl _ _).alloc _
          have hgN := hcur.size
          obtain ⟨hcur, hnet⟩ := alloc_after hcur 56 #[.slice none 0 0, .slice none 0 0]
          try replace hc9' := hc9'.alloc (.cells #[.slice none 0 0, .slice none 0 0] 56)
          try simp only [Act.put, List.setIfInBounds_toArray, List.set_cons_zero, List.set_cons_succ]
          refine u_reads ?_ (by rfl) (fun w' hR => ?_) ?_
          rotate_left
          · (go_simp; try with_reducible rfl)
          simp only [Act.put, List.setIfInBounds_toArray, List.set_cons_zero, List.set_cons_succ]
          refine u_does (by rfl) (fun K hK => ?_)
          go_simp
          have hs := (hf08.trans hcur (fun _ _ h => h)).size
          have hlt := hnet.lt
          refine hK _ _ ?hq ?_
          case hq => exact (Fr.refl _ _).alloc _
          try simp only [Act.put, List.setIfInBounds_toArray, List.set_cons_zero, List.set_cons_succ]
          refine u_reads ?_ (by rfl) (fun w' hR => ?_) ?_
          rotate_left
          · (go_simp; try with_reducible rfl)
          simp only [Act.put, List.setIfInBounds_toArray, List.set_cons_zero, List.set_cons_succ]
          refine u_end ?_
          go_wp2_with fail
          go_ret
          try simp only [World.size_alloc, drew_size] at hgN
          try simp only [World.size_alloc, drew_size] at hs
          try simp only [World.size_alloc, drew_size] at hlt
          refine newSrv_mk rfl (blk_new_at ?h0 _ _) (hnet.alloc _) ?h1 ?h2 ?h3 ?c0 rfl rfl rfl (hf08.trans (hcur.alloc _) (fun _ _ h => h))
          case h0 => simp
          case h1 => omega
          case h2 => (try simp only [World.size_alloc, drew_size]); omega
          case h3 => (try simp only [World.size_alloc, drew_size]); omega
          case c0 => first | rfl | simp
  · go_simp
    refine hK _ _ ?hq ?_
    case hq => exact (Fr.refl _ _).alloc _
    replace hcur := hcur.alloc (.cells (madeCells #[.int .i64 0, .int .i64 0, .int .i64 0, .string ⟨#[]⟩, .string ⟨#[]⟩, .slice none 0 0, .string ⟨#[]⟩, .bool false, .string ⟨#[]⟩, .string ⟨#[]⟩, .slice none 0 0, .string ⟨#[]⟩, .bool false, .int .i64 0, .int .i64 0, .int .i64 0, .string ⟨#[]⟩, .slice none 0 0, .slice none 0 0, .bool false, .string ⟨#[]⟩, .slice none 0 0, .int .i64 0, .slice none 0 0, .string ⟨#[]⟩, .bool false] (wk.toNat * 26)) 120)
    try replace hnet := hnet.alloc (.cells (madeCells #[.int .i64 0, .int .i64 0, .int .i64 0, .string ⟨#[]⟩, .string ⟨#[]⟩, .slice none 0 0, .string ⟨#[]⟩, .bool false, .string ⟨#[]⟩, .string ⟨#[]⟩, .slice none 0 0, .string ⟨#[]⟩, .bool false, .int .i64 0, .int .i64 0, .int .i64 0, .string ⟨#[]⟩, .slice none 0 0, .slice none 0 0, .bool false, .string ⟨#[]⟩, .slice none 0 0, .int .i64 0, .slice none 0 0, .string ⟨#[]⟩, .bool false] (wk.toNat * 26)) 120)
    try replace hc9' := hc9'.alloc (.cells (madeCells #[.int .i64 0, .int .i64 0, .int .i64 0, .string ⟨#[]⟩, .string ⟨#[]⟩, .slice none 0 0, .string ⟨#[]⟩, .bool false, .string ⟨#[]⟩, .string ⟨#[]⟩, .slice none 0 0, .string ⟨#[]⟩, .bool false, .int .i64 0, .int .i64 0, .int .i64 0, .string ⟨#[]⟩, .slice none 0 0, .slice none 0 0, .bool false, .string ⟨#[]⟩, .slice none 0 0, .int .i64 0, .slice none 0 0, .string ⟨#[]⟩, .bool false] (wk.toNat * 26)) 120)
    try simp only [Act.put, List.setIfInBounds_toArray, List.set_cons_zero, List.set_cons_succ]
    refine u_two (by rfl) (by rfl) (fun K hK => ?_) (fun K hK => ?_)
    · go_simp
      refine hK _ _ ?hq ?_
      case hq => exact (Fr.refl _ _).alloc _
      have hgN := hcur.size
      obtain ⟨hcur, hnet⟩ := alloc_after hcur 56 #[.slice none 0 0, .slice none 0 0]
      try replace hc9' := hc9'.alloc (.cells #[.slice none 0 0, .slice none 0 0] 56)
      try simp only [Act.put, List.setIfInBounds_toArray, List.set_cons_zero, List.set_cons_succ]
      refine u_does (by rfl) (fun K hK => ?_)
      go_simp
      refine (HFi.out _ (HHw.out _ hcur)).mono (Hid.out ?_)
      refine Lib.hid ?_
      rintro e w9 ⟨v9, rfl, hown9, hf9⟩
      obtain ⟨A9, c9, rfl, hc9, hr9⟩ := own_form hown9
      refine hK _ _ hf9 ?_
      replace hcur := hcur.trans hf9 (fun _ _ h => h)
      have hc9' := Fr.refl No w9
      try replace hnet := hnet.fr hf9 id
      try simp only [Act.put, List.setIfInBounds_toArray, List.set_cons_zero, List.set_cons_succ]
      refine u_does (by rfl) (fun K hK => ?_)
      go_simp
      refine (handleNew_any _ _ (HHw.out _ hcur) c.token A9 c9 FR (hr9.fr hc9' (fun _ _ h => h)) hlen8 hsm8).mono (Hid.out ?_)
      refine Lib.hid ?_
      rintro e w10 ⟨gw, rfl, hgw, hf10⟩
      refine hK _ _ hf10 ?_
      replace hcur := hcur.trans hf10 (fun _ _ h => h)
      try replace hnet := hnet.fr hf10 id
      try simp only [Act.put, List.setIfInBounds_toArray, List.set_cons_zero, List.set_cons_succ]
      refine u_does (by rfl) (fun K hK => ?_)
      go_simp
      refine (queueNew_any _ c.jobs).mono (Hid.out ?_)
      refine Lib.hid ?_
      rintro e w11 ⟨gq, rq, nq, rfl, _, _, _, _, _, hf11⟩
      refine hK _ _ hf11 ?_
      replace hcur := hcur.trans hf11 (fun _ _ h => h)
      try replace hnet := hnet.fr hf11 id
      try simp only [Act.put, List.setIfInBounds_toArray, List.set_cons_zero, List.set_cons_succ]
      refine u_reads ?_ (by rfl) (fun w' hR => ?_) ?_
      rotate_left
      · (go_simp; try with_reducible rfl)
      simp only [Act.put, List.setIfInBounds_toArray, List.set_cons_zero, List.set_cons_succ]
      refine u_does (by rfl) (fun K hK => ?_)
      go_simp
      have hs := (hf08.trans hcur (fun _ _ h => h)).size
      have hlt := hnet.lt
      refine hK _ _ ?hq ?_
      case hq => exact (Fr.refl _ _).alloc _
      try simp only [Act.put, List.setIfInBounds_toArray, List.set_cons_zero, List.set_cons_succ]
      refine u_reads ?_ (by rfl) (fun w' hR => ?_) ?_
      rotate_left
      · (go_simp; try with_reducible rfl)
      simp only [Act.put, List.setIfInBounds_toArray, List.set_cons_zero, List.set_cons_succ]
      refine u_end ?_
      go_wp2_with fail
      go_ret
      try simp only [World.size_alloc, drew_size] at hgN
      try simp only [World.size_alloc, drew_size] at hs
      try simp only [World.size_alloc, drew_size] at hlt
      refine newSrv_mk rfl (blk_new_at ?h0 _ _) (hnet.alloc _) ?h1 ?h2 ?h3 ?c0 rfl rfl rfl (hf08.trans (hcur.alloc _) (fun _ _ h => h))
      case h0 => simp
      case h1 => omega
      case h2 => (try simp only [World.size_alloc, drew_size]); omega
      case h3 => (try simp only [World.size_alloc, drew_size]); omega
      case c0 => first | rfl | simp
    · go_simp
      refine (HFi.out _ (HHw.out _ hcur)).mono (Hid.out ?_)
      refine Lib.hid ?_
      rintro e w9 ⟨v9, rfl, hown9, hf9⟩
      obtain ⟨A9, c9, rfl, hc9, hr9⟩ := own_form hown9
      refine hK _ _ hf9 ?_
      replace hcur := hcur.trans hf9 (fun _ _ h => h)
      have hc9' := Fr.refl No w9
      try replace hnet := hnet.fr hf9 id
      try simp only [Act.put, List.setIfInBounds_toArray, List.set_cons_zero, List.set_cons_succ]
      refine u_two (by rfl) (by rfl) (fun K hK => ?_) (fun K hK => ?_)
      · go_simp
        refine hK _ _ ?hq ?_
        case hq => exact (Fr.refl _ _).alloc _
        have hgN := hcur.size
        obtain ⟨hcur, hnet⟩ := alloc_after hcur 56 #[.slice none 0 0, .slice none 0 0]
        try replace hc9' := hc9'.alloc (.cells #[.slice none 0 0, .slice none 0 0] 56)
        try simp only [Act.put, List.setIfInBounds_toArray, List.set_cons_zero, List.set_cons_succ]
        refine u_does (by rfl) (fun K hK => ?_)
        go_simp
        refine (handleNew_any _ _ (HHw.out _ hcur) c.token A9 c9 FR (hr9.fr hc9' (fun _ _ h => h)) hlen8 hsm8).mono (Hid.out ?_)
        refine Lib.hid ?_
        rintro e w10 ⟨gw, rfl, hgw, hf10⟩
        refine hK _ _ hf10 ?_
        replace hcur := hcur.trans hf10 (fun _ _ h => h)
        try replace hnet := hnet.fr hf10 id
        try simp only [Act.put, List.setIfInBounds_toArray, List.set_cons_zero, List.set_cons_succ]
        refine u_does (by rfl) (fun K hK => ?_)
        go_simp
        refine (queueNew_any _ c.jobs).mono (Hid.out ?_)
        refine Lib.hid ?_
        rintro e w11 ⟨gq, rq, nq, rfl, _, _, _, _, _, hf11⟩
        refine hK _ _ hf11 ?_
        replace hcur := hcur.trans hf11 (fun _ _ h => h)
        try replace hnet := hnet.fr hf11 id
        try simp only [Act.put, List.setIfInBounds_toArray, List.set_cons_zero, List.set_cons_succ]
        refine u_reads ?_ (by rfl) (fun w' hR => ?_) ?_
        rotate_left
        · (go_simp; try with_reducible rfl)
        simp only [Act.put, List.setIfInBounds_toArray, List.set_cons_zero, List.set_cons_succ]
        refine u_does (by rfl) (fun K hK => ?_)
        go_simp
        have hs := (hf08.trans hcur (fun _ _ h => h)).size
        have hlt := hnet.lt
        refine hK _ _ ?hq ?_
        case hq => exact (Fr.refl _ _).alloc _
        try simp only [Act.put, List.setIfInBounds_toArray, List.set_cons_zero, List.set_cons_succ]
        refine u_reads ?_ (by rfl) (fun w' hR => ?_) ?_
        rotate_left
        · (go_simp; try with_reducible rfl)
        simp only [Act.put, List.setIfInBounds_toArray, List.set_cons_zero, List.set_cons_succ]
        refine u_end ?_
        go_wp2_with fail
        go_ret
        try simp only [World.size_alloc, drew_size] at hgN
        try simp only [World.size_alloc, drew_size] at hs
        try simp only [World.size_alloc, drew_size] at hlt
        refine newSrv_mk rfl (blk_new_at ?h0 _ _) (hnet.alloc _) ?h1 ?h2 ?h3 ?c0 rfl rfl rfl (hf08.trans (hcur.alloc _) (fun _ _ h => h))
        case h0 => simp
        case h1 => omega
        case h2 => (try simp only [World.size_alloc, drew_size]); omega
        case h3 => (try simp only [World.size_alloc, drew_size]); omega
        case c0 => first | rfl | simp
      · go_simp
        refine (handleNew_any _ _ (HHw.out _ hcur) c.token A9 c9 FR (hr9.fr hc9' (fun _ _ h => h)) hlen8 hsm8).mono (Hid.out ?_)
        refine Lib.hid ?_
        rintro e w10 ⟨gw, rfl, hgw, hf10⟩
        refine hK _ _ hf10 ?_
        replace hcur := hcur.trans hf10 (fun _ _ h => h)
        try replace hnet := hnet.fr hf10 id
        try simp only [Act.put, List.setIfInBounds_toArray, List.set_cons_zero, List.set_cons_succ]
        refine u_two (by rfl) (by rfl) (fun K hK => ?_) (fun K hK => ?_)
        · go_simp
          refine hK _ _ ?hq ?_
          case hq => exact (Fr.refl _ _).alloc _
          have hgN := hcur.size
          obtain ⟨hcur, hnet⟩ := alloc_after hcur 56 #[.slice none 0 0, .slice none 0 0]
          try replace hc9' := hc9'.alloc (.cells #[.slice none 0 0, .slice none 0 0] 56)
          try simp only [Act.put, List.setIfInBounds_toArray, List.set_cons_zero, List.set_cons_succ]
          refine u_does (by rfl) (fun K hK => ?_)
          go_simp
          refine (queueNew_any _ c.jobs).mono (Hid.out ?_)
          refine Lib.hid ?_
          rintro e w11 ⟨gq, rq, nq, rfl, _, _, _, _, _, hf11⟩
          refine hK _ _ hf11 ?_
          replace hcur := hcur.trans hf11 (fun _ _ h => h)
          try replace hnet := hnet.fr hf11 id
          try simp only [Act.put, List.setIfInBounds_toArray, List.set_cons_zero, List.set_cons_succ]
          refine u_reads ?_ (by rfl) (fun w' hR => ?_) ?_
          rotate_left
          · (go_simp; try with_reducible rfl)
          simp only [Act.put, List.setIfInBounds_toArray, List.set_cons_zero, List.set_cons_succ]
          refine u_does (by rfl) (fun K hK => ?_)
          go_simp
          have hs := (hf08.trans hcur (fun _ _ h => h)).size
          have hlt := hnet.lt
          refine hK _ _ ?hq ?_
          case hq => exact (Fr.refl _ _).alloc _
          try simp only [Act.put, List.setIfInBounds_toArray, List.set_cons_zero, List.set_cons_succ]
          refine u_reads ?_ (by rfl) (fun w' hR => ?_) ?_
          rotate_left
          · (go_simp; try with_reducible rfl)
          simp only [Act.put, List.setIfInBounds_toArray, List.set_cons_zero, List.set_cons_succ]
          refine u_end ?_
          go_wp2_with fail
          go_ret
          try simp only [World.size_alloc, drew_size] at hgN
          try simp only [World.size_alloc, drew_size] at hs
          try simp only [World.size_alloc, drew_size] at hlt
          refine newSrv_mk rfl (blk_new_at ?h0 _ _) (hnet.alloc _) ?h1 ?h2 ?h3 ?c0 rfl rfl rfl (hf08.trans (hcur.alloc _) (fun _ _ h => h))
          case h0 => simp
          case h1 => omega
          case h2 => (try simp only [World.size_alloc, drew_size]); omega
          case h3 => (try simp only [World.size_alloc, drew_size]); omega
          case c0 => first | rfl | simp
        · go_simp
          refine (queueNew_any _ c.jobs).mono (Hid.out ?_)
          refine Lib.hid ?_
          rintro e w11 ⟨gq, rq, nq, rfl, _, _, _, _, _, hf11⟩
          refine hK _ _ hf11 ?_
          replace hcur := hcur.trans hf11 (fun _ _ h => h)
          try replace hnet := hnet.fr hf11 id
          try simp only [Act.put, List.setIfInBounds_toArray, List.set_cons_zero, List.set_cons_succ]
          refine u_does (by rfl) (fun K hK => ?_)
          go_simp
          refine hK _ _ ?hq ?_
          case hq => exact (Fr.refl _ _).alloc _
          have hgN := hcur.size
          obtain ⟨hcur, hnet⟩ := alloc_after hcur 56 #[.slice none 0 0, .slice none 0 0]
          try replace hc9' := hc9'.alloc (.cells #[.slice none 0 0, .slice none 0 0] 56)
          try simp only [Act.put, List.setIfInBounds_toArray, List.set_cons_zero, List.set_cons_succ]
          refine u_reads ?_ (by rfl) (fun w' hR => ?_) ?_
          rotate_left
          · (go_simp; try with_reducible rfl)
          simp only [Act.put, List.setIfInBounds_toArray, List.set_cons_zero, List.set_cons_succ]
          refine u_does (by rfl) (fun K hK => ?_)
          go_simp
          have hs := (hf08.trans hcur (fun _ _ h => h)).size
          have hlt := hnet.lt
          refine hK _ _ ?hq ?_
          case hq => exact (Fr.refl _ _).alloc _
          try simp only [Act.put, List.setIfInBounds_toArray, List.set_cons_zero, List.set_cons_succ]
          refine u_reads ?_ (by rfl) (fun w' hR => ?_) ?_
          rotate_left
          · (go_simp; try with_reducible rfl)
          simp only [Act.put, List.setIfInBounds_toArray, List.set_cons_zero, List.set_cons_succ]
          refine u_end ?_
          go_wp2_with fail
          go_ret
          try simp only [World.size_alloc, drew_size] at hgN
          try simp only [World.size_alloc, drew_size] at hs
          try simp only [World.size_alloc, drew_size] at hlt
          refine newSrv_mk rfl (blk_new_at ?h0 _ _) (hnet.alloc _) ?h1 ?h2 ?h3 ?c0 rfl rfl rfl (hf08.trans (hcur.alloc _) (fun _ _ h => h))
          case h0 => simp
          case h1 => omega
          case h2 => (try simp only [World.size_alloc, drew_size]); omega
          case h3 => (try simp only [World.size_alloc, drew_size]); omega
          case c0 => first | rfl | simp
end Go.Proofs.YthcbjeeajoliiaaGreatDoor
