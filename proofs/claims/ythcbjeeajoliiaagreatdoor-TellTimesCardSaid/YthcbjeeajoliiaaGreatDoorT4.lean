/- trie: put. -/
import Derived.Test.YthcbjeeajoliiaaGreatDoorT3
set_option linter.unusedVariables false
set_option linter.unusedSimpArgs false
namespace Go.Proofs.YthcbjeeajoliiaaGreatDoor
open Go.RowKit
open Cr (Str Rou)

section
variable {P : Program} (w : World)
/-- 'append(s, xs...)' where s has no room: a new row, whatever s is. -/
theorem run_app_full {Pr Pr' : Nat → Prop} (t ty e : TypeId) (z : Value) (size bytes : Nat) (ht : P.underlying t = some (.slice e))
    (hinfo : (P.info? e).map (fun i => (i.zero, i.size, i.bytes)) = some (some z, size, bytes)) (hzs : z.cells.size = size) (hsz : 0 < size)
    (D : Option Addr) (m : Nat) (olds : List Value) (hlo : olds.length = m * size) (hrD : Rd Pr' w D olds)
    (A : Option Addr) (n c : Nat) (news : List Value) (hl : news.length = n * size) (hr : Rd Pr w A news) (hn : 0 < n)
    (hbytes : (m + n) * bytes ≤ 140737488355328) (hb0 : 0 < bytes) :
    ∃ v' w', (Builtin.append_ #[t, t] ty #[.slice D m m, .slice A n c]).run P w = .ok v' w' ∧ w'.ownsRow w.heap.size e size v' (m + n) (olds ++ news) ∧ Fr No w w' := by
  obtain ⟨i, hi, hz, hsize, hby⟩ := info_parts hinfo
  have h63 : m + n ≤ maxLen := by
    have : (m + n) * 1 ≤ (m + n) * bytes := Nat.mul_le_mul_left _ hb0
    unfold maxLen; omega
  have h63' : m + n ≤ 9223372036854775807 := by unfold maxLen at h63; omega
  have hlen : (olds ++ news).length = (m + n) * size := by rw [List.length_append, hlo, hl, Nat.add_mul]
  have hne : news ≠ [] := by
    rintro rfl
    have := Nat.mul_pos hn hsz
    simp only [List.length_nil] at hl
    omega
  obtain ⟨ad, rfl, _, _, _⟩ := hr hne
  have grown : ∀ (old : Nat), old < m + n →
      (w.drew.alloc (.cells (olds.toArray ++ news.toArray ++ Builtin.zeroCells z.cells (grownCap w (m + n) old e - (m + n))) e)).ownsRow w.heap.size e size
        (.slice (some ⟨w.heap.size, 0, none⟩) (m + n) (grownCap w (m + n) old e)) (m + n) (olds ++ news) ∧
      Fr No w (w.drew.alloc (.cells (olds.toArray ++ news.toArray ++ Builtin.zeroCells z.cells (grownCap w (m + n) old e - (m + n))) e)) := by
    intro old ho
    have hge := grownCap_ge w (m + n) old e
    have hcm : grownCap w (m + n) old e ≤ maxLen := grownCap_le_maxLen w (m + n) old e h63
    refine ⟨⟨hlen, .inr ⟨w.heap.size, _, _, rfl, Nat.le_refl _, heap_alloc_new w.drew _, hge, hcm, ?_, ?_⟩⟩, ((Fr.refl No w).drew).alloc _⟩
    · simp only [Array.size_append, List.size_toArray, size_zeroCells, hzs, hlo, hl, ← Nat.add_mul]
      congr 1
      omega
    · simp only [Array.toList_append, List.append_assoc]
      rw [← List.append_assoc, ← hlen]
      exact List.take_left
  cases D with
  | none =>
    have hm : m = 0 := by
      rcases Nat.eq_zero_or_pos m with h | h
      · exact h
      · have : olds ≠ [] := by
          rintro rfl
          have := Nat.mul_pos h hsz
          simp only [List.length_nil] at hlo
          omega
        obtain ⟨_, h, _⟩ := hrD this
        cases h
    subst hm
    have ho : olds = [] := List.eq_nil_of_length_eq_zero (by simpa using hlo)
    subst ho
    have hg := grown 0 (by omega)
    have hrn := run_append_nil (P := P) w t ty e i z ht hi hz ad n c news (by rw [hsize]; exact hl) (hr.adds w) hn (by omega) (by rw [hby]; simp only [Nat.zero_add] at hbytes; omega)
    simp only [Nat.zero_add, List.nil_append, Array.empty_append] at hg ⊢
    exact ⟨_, _, hrn, hg.1, hg.2⟩
  | some b =>
    have hg := grown m (by omega)
    have hrn := run_append_grow (P := P) w t ty e i z ht hi hz b m m olds (by rw [hsize]; exact hlo) (hrD.adds w) ad n c news (by rw [hsize]; exact hl) (hr.adds w) (by omega) (by omega) (by rw [hby]; exact growslice_fits (by omega) hbytes)
    exact ⟨_, _, hrn, hg.1, hg.2⟩
theorem op_app_full {Pr Pr' : Nat → Prop} {o : Oper} {a : Act} {K : Act → World → Prop} {Q : Exit → Act → World → Prop} (s x : Operand) (t : TypeId)
    (ho : o.op = .call { callee := .builtin .append, args := #[s, x], argTypes := #[t, t] })
    (e : TypeId) (z : Value) (size bytes : Nat) (ht : P.underlying t = some (.slice e))
    (hinfo : (P.info? e).map (fun i => (i.zero, i.size, i.bytes)) = some (some z, size, bytes)) (hzs : z.cells.size = size) (hsz : 0 < size)
    (D : Option Addr) (m : Nat) (olds : List Value) (hs : a.eval s = .slice D m m) (hlo : olds.length = m * size) (hrD : Rd Pr' w D olds)
    (A : Option Addr) (n c : Nat) (news : List Value) (hx : a.eval x = .slice A n c) (hl : news.length = n * size) (hr : Rd Pr w A news) (hn : 0 < n)
    (hbytes : (m + n) * bytes ≤ 140737488355328) (hb0 : 0 < bytes)
    (h : ∀ v' w', w'.ownsRow w.heap.size e size v' (m + n) (olds ++ news) → Fr No w w' → K (a.put o.dst v') w') :
    Oper.wp P o a w K Q := by
  obtain ⟨v', w', hrun, h2, h3⟩ := run_app_full (P := P) w t o.type e z size bytes ht hinfo hzs hsz D m olds hlo hrD A n c news hl hr hn hbytes hb0
  unfold Oper.wp execOp
  simp only [ho, resolve, invoke, builtin, Sem.run_bind, Sem.run_pure, Result.andThen_ok, List.map_toArray, List.map_cons, List.map_nil, hs, hx, hrun]
  exact h v' w' h2 h3
end

def PutHolds (N k : Nat) : Prop := ∀ (P Pl : Nat → Prop) (l : List Str) (r : Rou) (q : Option Addr) (n : Option Cr.Node) (w : World) (A : Option Addr) (c : Nat),
  l.length < k → l.length ≤ c → c ≤ 9223372036854775807 → (∀ x ∈ l, x.length ≤ 1000000) → Rd Pl w A (strsV l) → NodeAt P N w q n →
  Calls Tryz.prog 113 #[.pointer q, .slice A l.length c, .agg #[.string ⟨r.method.toArray⟩, .string ⟨r.pattern.toArray⟩, .string ⟨r.handler.toArray⟩]] w fun e w' =>
    ∃ g, e = .returned (.pointer (some ⟨g, 0, none⟩)) ∧ NodeAt (fun i => P i ∨ w.heap.size ≤ i) (N + 1) w' (some ⟨g, 0, none⟩) (some (Cr.putGo r l n)) ∧ Fr No w w'

theorem putGo_nil (r : Rou) (n : Option Cr.Node) {es nx p rs e} (h : nodeOr n = .mk es nx p rs e) : Cr.putGo r [] n = .mk es nx p rs (e ++ [r]) := by
  unfold nodeOr at h
  simp only [Cr.putGo, h]

set_option maxRecDepth 100000 in
set_option maxHeartbeats 4000000 in
theorem put_nil (N : Nat) (hN : N ≤ 900000) (P : Nat → Prop) (r : Rou) (q : Option Addr) (n : Option Cr.Node) (w : World) (A : Option Addr) (c : Nat) (hnode0 : NodeAt P N w q n) :
    Calls Tryz.prog 113 #[.pointer q, .slice A 0 c, .agg #[.string ⟨r.method.toArray⟩, .string ⟨r.pattern.toArray⟩, .string ⟨r.handler.toArray⟩]] w fun e w' =>
    ∃ g, e = .returned (.pointer (some ⟨g, 0, none⟩)) ∧ NodeAt (fun i => P i ∨ w.heap.size ≤ i) (N + 1) w' (some ⟨g, 0, none⟩) (some (Cr.putGo r [] n)) ∧ Fr No w w' := by
  have hf1 : Fr No w ((w.alloc (.cells #[.slice A 0 c] 68)).alloc (.cells #[.string ⟨r.method.toArray⟩, .string ⟨r.pattern.toArray⟩, .string ⟨r.handler.toArray⟩] 137)) := ((Fr.refl _ _).alloc _).alloc _
  have hnode : NodeAt (fun i => P i ∧ i < w.heap.size) N w q n := hnode0.mono (Nat.le_refl _) (fun i hi hp => ⟨hp, hi⟩)
  have HC := Lib.hid (copied_at (fun i => P i ∧ i < w.heap.size) N _ q n (hnode.no hf1) (by omega))
  have hbr := Blk.new (w.alloc (.cells #[.slice A 0 c] 68)) 137 #[.string ⟨r.method.toArray⟩, .string ⟨r.pattern.toArray⟩, .string ⟨r.handler.toArray⟩]
  rw [World.size_alloc] at hbr
  clear hnode hnode0
  go_enter Tryz.func113, Tryz.ntmps113
  go_wp2_with (go_at_call 136; refine HC.out.mono ?_)
  rintro e w1 ⟨g, A1, c1, pn, pp, pr, D, ps, es, nx, p, rs, ends, rfl, hnd, hcp, hf2⟩
  have hb1 := hbr.fr hf2 id
  have hf12 := hf1.trans hf2 (fun _ _ h => h)
  have hsz := hf1.size
  have hsz1 := hf2.size
  have s0 : w1.drew.cell? ⟨w.heap.size + 1, 0, none⟩ = some (.string ⟨r.method.toArray⟩) := hb1.cell 0
  have s1 : w1.drew.cell? ⟨w.heap.size + 1, 1, none⟩ = some (.string ⟨r.pattern.toArray⟩) := hb1.cell 1
  have s2 : w1.drew.cell? ⟨w.heap.size + 1, 2, none⟩ = some (.string ⟨r.handler.toArray⟩) := hb1.cell 2
  have s4 : w1.drew.cell? ⟨g, 4, none⟩ = some (.slice D ends.length ends.length) := hcp.hb.cell 4
  have Hnd := Lib.hid hnd
  clear hnd HC hbr
  go_wp2_with fail
  refine wp_region_z (Fr No) (.read 0 (.read 1 (.read 2 (.read 3 (.read 4 (.read 5 (.eff 6 (.eff 7 (.pure 8 (.read 9 (.last 10))))))))))) (by rfl) (PlanRel.refl _) (PlanRel.trans _) (by intro c a d v w h; cases d <;> exact h) (by kernel_rfl) (fun s hs => ?_) (by kernel_rfl)
  simp only [zOf, List.getElem?_toArray, List.getElem?_cons_succ, List.getElem?_cons_zero, Option.some.injEq] at hs
  subst hs
  refine z_reads ?_ (by rfl) (fun w' hR => ?_) ?_
  rotate_left
  · (go_simp; try with_reducible rfl)
  simp only [Act.put, List.setIfInBounds_toArray, List.set_cons_zero, List.set_cons_succ]
  refine z_reads ?_ (by rfl) (fun w' hR => ?_) ?_
  rotate_left
  · (go_simp; try with_reducible rfl)
  simp only [Act.put, List.setIfInBounds_toArray, List.set_cons_zero, List.set_cons_succ]
  refine z_reads ?_ (by rfl) (fun w' hR => ?_) ?_
  rotate_left
  · (go_simp; try with_reducible rfl)
  simp only [Act.put, List.setIfInBounds_toArray, List.set_cons_zero, List.set_cons_succ]
  refine z_reads ?_ (by rfl) (fun w' hR => ?_) ?_
  rotate_left
  · (go_simp; try with_reducible rfl)
  simp only [Act.put, List.setIfInBounds_toArray, List.set_cons_zero, List.set_cons_succ]
  refine z_reads ?_ (by rfl) (fun w' hR => ?_) ?_
  rotate_left
  · have hk := hR.cell s4 id
    (go_simp; try with_reducible rfl)
  simp only [Act.put, List.setIfInBounds_toArray, List.set_cons_zero, List.set_cons_succ]
  refine z_reads ?_ (by rfl) (fun w' hR => ?_) ?_
  rotate_left
  · have hk := hR.cell s0 id
    have hk1 := hR.cell s1 id
    have hk2 := hR.cell s2 id
    (go_simp; try with_reducible rfl)
  simp only [Act.put, List.setIfInBounds_toArray, List.set_cons_zero, List.set_cons_succ]
  refine z_does (by rfl) (fun K hK => ?_)
  go_simp
  refine hK _ _ ?hq ?_
  case hq => exact (Fr.refl _ _).alloc _
  try simp only [Act.put, List.setIfInBounds_toArray, List.set_cons_zero, List.set_cons_succ]
  refine z_does (by rfl) (fun K hK => ?_)
  refine op_app_full (Pr := fun _ => True) (Pr' := fun i => P i ∧ i < w.heap.size) _ (.tmp 20) (.tmp 22) _ rfl 137 _ 3 48 Tryz.underlying58 infoRoute rfl (by decide) D ends.length (rousV ends) rfl ?a0 ?a1 _ 1 1 (rousV [r]) rfl rfl ?a2 (by decide) ?a4 (by decide) ?_
  case a0 => exact rousV_length _
  case a1 => exact hcp.hD.fr ((Fr.refl _ _).alloc _).drew (fun _ _ h => h)
  case a2 => exact Rd.mono ((Rd.newAt (w := w1) (t := 137) (cs := #[.string ⟨r.method.toArray⟩, .string ⟨r.pattern.toArray⟩, .string ⟨r.handler.toArray⟩]) rfl rfl).fr (Fr.refl No _).drew (fun _ _ h => h)) (fun _ _ _ => trivial)
  case a4 => have := hcp.hM; omega
  intro v3 w3 hown3 hf3
  obtain ⟨A3, c3, rfl, hc3, _⟩ := own_form hown3
  refine hK _ _ hf3 ?_
  have hf13 : Fr No w1 w3 := (((Fr.refl _ _).alloc _).drew).trans hf3 (fun _ _ h => h)
  have hcp3 := hcp.no hf13
  have r0 : w3.cell? ⟨g, 4, none⟩ = some (.slice D ends.length ends.length) := hcp3.hb.cell 4
  have r1 : w3.frozen? ⟨g, 4, none⟩ = false := hcp3.hb.frozen 4
  try simp only [Act.put, List.setIfInBounds_toArray, List.set_cons_zero, List.set_cons_succ]
  refine z_pure ?_ (by rfl) (fun w' => ?_) ?_
  rotate_left
  · (go_simp; try with_reducible rfl)
  simp only [Act.put, List.setIfInBounds_toArray, List.set_cons_zero, List.set_cons_succ]
  refine z_reads ?_ (by rfl) (fun w' hR => ?_) ?_
  rotate_left
  · (go_simp; try with_reducible rfl)
  simp only [Act.put, List.setIfInBounds_toArray, List.set_cons_zero, List.set_cons_succ]
  refine z_last (by rfl) (fun K hK => ?_)
  go_simp
  refine hK _ _ ?_
  go_wp2_with fail
  go_ret
  have hg := hcp.hg
  have hglt := hcp.hb.lt
  have hfs : Fr (fun i => i = g) w3 (w3.setCell ⟨g, 4, none⟩ (.slice A3 (ends.length + 1) c3)) := by
    refine Fr.setCell (Fr.refl _ _) ?_ _
    intro _; rfl
  have hPg : ∀ i, (P i ∧ i < w.heap.size) → ¬ i = g := fun i hi h => by omega
  refine ⟨g, rfl, ?_, (hf12.trans hf13 (fun _ _ h => h)).trans hfs (fun i hi h => by omega)⟩
  rw [putGo_nil r n Hnd.out]
  have hb4 := hcp3.hb.set_ 4 (.slice A3 (ends.length + 1) c3)
  have h3g : ∀ i, (Value.slice A3 (ends.length + 1) c3).ownBlock = some i → ¬ i = g := by
    intro i hi h
    have := (hown3.lt i hi).1
    simp at this
    omega
  have hown4 := hown3.fr hfs h3g
  rw [← rousV_append] at hown4
  have hown5 := hcp3.own.fr hfs hcp3.rowNe
  refine NodeAt.mk (P := fun i => P i ∨ w.heap.size ≤ i) (N := N + 1) g A1 A3 c1 c3 pn pp pr es ps nx p rs (ends ++ [r]) (.inr (by omega)) (by rw [List.length_append]; exact hb4) hown5.capOf (by rw [List.length_append]; exact hown4.capOf) (fun h => hown5.nilOf h) hcp3.hps
    (by have := hcp3.hN; omega) (by rw [List.length_append]; have := hcp3.hM; simp only [List.length_cons, List.length_nil]; omega) hcp3.ht (hown5.rd (fun i hi => .inr (by omega))) (hown4.rd (fun i hi => .inr (by simp at hi; omega)))
    (fun i t m q' h1 h2 => (hcp3.hes i t m q' h1 h2).over hfs hPg (by omega) (fun i hi => .inl hi.1)) (hcp3.hn.over hfs hPg (by omega) (fun i hi => .inl hi.1)) (hcp3.hp.over hfs hPg (by omega) (fun i hi => .inl hi.1)) (hcp3.hr.over hfs hPg (by omega) (fun i hi => .inl hi.1))
end Go.Proofs.YthcbjeeajoliiaaGreatDoor
