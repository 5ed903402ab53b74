/- trie: put, whole. -/
import Derived.Test.YthcbjeeajoliiaaGreatDoorT4
set_option linter.unusedVariables false
set_option linter.unusedSimpArgs false
namespace Go.Proofs.YthcbjeeajoliiaaGreatDoor
open Go.RowKit
open Cr (Str Rou)

theorem word_all (N : Nat) (w0 : World) (b1 b2 : Nat) (f : Option Cr.Node → Cr.Node) (hF : OnCalls N w0 b1 b2 f) (hN1 : 1 ≤ N) (hN : N ≤ 900000) : ∀ k, WordHolds N w0 b1 b2 f k
  | 0 => fun _ s _ _ _ hk => by omega
  | k + 1 => word_step N w0 b1 b2 f hF hN1 hN k (word_all N w0 b1 b2 f hF hN1 hN k)

set_option maxRecDepth 100000 in
theorem on_of_put (N k : Nat) (hput : PutHolds N k) (W0 : World) (b1 b2 : Nat) (Pl : Nat → Prop) (x : Str) (l : List Str) (r : Rou) (A : Option Addr) (c : Nat) (hk : l.length < k)
    (hb1 : Blk W0 b1 68 #[.slice A (l.length + 1) c]) (hb2 : Blk W0 b2 137 #[.string ⟨r.method.toArray⟩, .string ⟨r.pattern.toArray⟩, .string ⟨r.handler.toArray⟩])
    (hr : Rd Pl W0 A (strsV (x :: l))) (hc : l.length + 1 ≤ c) (hcm : c ≤ 9223372036854775807) (hs : ∀ y ∈ l, y.length ≤ 1000000) : OnCalls N W0 b1 b2 (Cr.putGo r l) := by
  intro P W q m hf hm
  have b1' := hb1.fr hf id
  have b2' := hb2.fr hf id
  have hrW := hr.fr hf (fun _ _ h => h)
  obtain ⟨ga, off, rfl, hpl, hcell⟩ := hrW.form (by simp [strsV])
  have s1 : W.drew.cell? ⟨b1, 0, none⟩ = some (.slice (some ⟨ga, off, none⟩) (l.length + 1) c) := b1'.cell 0
  have t0 : W.drew.cell? ⟨b2, 0, none⟩ = some (.string ⟨r.method.toArray⟩) := b2'.cell 0
  have t1 : W.drew.cell? ⟨b2, 1, none⟩ = some (.string ⟨r.pattern.toArray⟩) := b2'.cell 1
  have t2 : W.drew.cell? ⟨b2, 2, none⟩ = some (.string ⟨r.handler.toArray⟩) := b2'.cell 2
  have hl' : (l.length : Int) + 1 ≤ (c : Int) := by omega
  have hcm' : (c : Int) ≤ 9223372036854775807 := by omega
  have h1l : (1 : Int) ≤ (l.length : Int) + 1 := by omega
  have hrt : Rd Pl W.drew (if c = 1 then some ⟨ga, off, none⟩ else some ⟨ga, off + 1, none⟩) (strsV l) := by
    rcases Nat.eq_zero_or_pos l.length with h0 | h0
    · rw [List.eq_nil_of_length_eq_zero h0]
      exact Rd.nil _ _ _
    · have hrd := hrW.drop_ (n := (x :: l).length) (c := c) (k := 1) (by simpa using h0) (by simpa using hc) 1
      have e : (strsV (x :: l)).drop 1 = strsV l := rfl
      rw [e] at hrd
      exact hrd
  by_cases hc1 : c = 1
  · rw [if_pos hc1] at hrt
    obtain rfl : l = [] := List.eq_nil_of_length_eq_zero (by omega)
    have HP := Lib.hid (hput P Pl [] r q m W.drew (some ⟨ga, off, none⟩) (c - 1) hk (by omega) (by omega) hs hrt (hm.no (Fr.refl _ _).drew))
    subst hc1
    go_enter Tryz.func137, Tryz.ntmps137
    go_wp2_with fail
    refine wp_region_steps (Fr No) [(0, false), (1, false), (2, false), (3, false), (4, true), (5, false)] (by rfl) (PlanRel.refl _) (PlanRel.trans _) (by intro c a d v w h; cases d <;> exact h) (by kernel_rfl) (fun l hl => ?_) (by kernel_rfl)
    simp only [stepsOf, List.getElem?_toArray, List.getElem?_cons_succ, List.getElem?_cons_zero, Option.some.injEq] at hl
    subst hl
    refine plan_reads ?_ (by rfl) (fun w' hR => ?_) ?_
    rotate_left
    · (go_simp; try with_reducible rfl)
    simp only [Act.put, List.setIfInBounds_toArray, List.set_cons_zero, List.set_cons_succ]
    refine plan_reads ?_ (by rfl) (fun w' hR => ?_) ?_
    rotate_left
    · have hk1 := hR.cell s1 id
      (go_simp; try with_reducible rfl)
    simp only [Act.put, List.setIfInBounds_toArray, List.set_cons_zero, List.set_cons_succ]
    refine plan_reads ?_ (by rfl) (fun w' hR => ?_) ?_
    rotate_left
    · (go_simp; try with_reducible rfl)
    simp only [Act.put, List.setIfInBounds_toArray, List.set_cons_zero, List.set_cons_succ]
    refine plan_reads ?_ (by rfl) (fun w' hR => ?_) ?_
    rotate_left
    · have hk1 := hR.cell t0 id
      have hk2 := hR.cell t1 id
      have hk3 := hR.cell t2 id
      (go_simp; try with_reducible rfl)
    simp only [Act.put, List.setIfInBounds_toArray, List.set_cons_zero, List.set_cons_succ]
    refine plan_does (by rfl) (fun K hK => ?_)
    go_simp
    refine HP.out.mono ?_
    rintro e w1 ⟨g, rfl, hn1, hf1⟩
    refine hK _ _ hf1 ?_
    try simp only [Act.put, List.setIfInBounds_toArray, List.set_cons_zero, List.set_cons_succ]
    refine plan_reads ?_ (by rfl) (fun w' hR => ?_) ?_
    rotate_left
    · (go_simp; try with_reducible rfl)
    simp only [Act.put, List.setIfInBounds_toArray, List.set_cons_zero, List.set_cons_succ]
    refine plan_end ?_
    go_wp2_with fail
    go_ret
    exact ⟨g, rfl, hn1, (Fr.refl _ _).drew.trans hf1 (fun _ _ h => h)⟩
  · rw [if_neg hc1] at hrt
    have HP := Lib.hid (hput P Pl l r q m W.drew (some ⟨ga, off + 1, none⟩) (c - 1) hk (by omega) (by omega) hs hrt (hm.no (Fr.refl _ _).drew))
    go_enter Tryz.func137, Tryz.ntmps137
    go_wp2_with fail
    refine wp_region_steps (Fr No) [(0, false), (1, false), (2, false), (3, false), (4, true), (5, false)] (by rfl) (PlanRel.refl _) (PlanRel.trans _) (by intro c a d v w h; cases d <;> exact h) (by kernel_rfl) (fun l hl => ?_) (by kernel_rfl)
    simp only [stepsOf, List.getElem?_toArray, List.getElem?_cons_succ, List.getElem?_cons_zero, Option.some.injEq] at hl
    subst hl
    refine plan_reads ?_ (by rfl) (fun w' hR => ?_) ?_
    rotate_left
    · (go_simp; try with_reducible rfl)
    simp only [Act.put, List.setIfInBounds_toArray, List.set_cons_zero, List.set_cons_succ]
    refine plan_reads ?_ (by rfl) (fun w' hR => ?_) ?_
    rotate_left
    · have hk1 := hR.cell s1 id
      (go_simp; try with_reducible rfl)
    simp only [Act.put, List.setIfInBounds_toArray, List.set_cons_zero, List.set_cons_succ]
    refine plan_reads ?_ (by rfl) (fun w' hR => ?_) ?_
    rotate_left
    · (go_simp; try with_reducible rfl)
    simp only [Act.put, List.setIfInBounds_toArray, List.set_cons_zero, List.set_cons_succ]
    refine plan_reads ?_ (by rfl) (fun w' hR => ?_) ?_
    rotate_left
    · have hk1 := hR.cell t0 id
      have hk2 := hR.cell t1 id
      have hk3 := hR.cell t2 id
      (go_simp; try with_reducible rfl)
    simp only [Act.put, List.setIfInBounds_toArray, List.set_cons_zero, List.set_cons_succ]
    refine plan_does (by rfl) (fun K hK => ?_)
    go_simp
    refine HP.out.mono ?_
    rintro e w1 ⟨g, rfl, hn1, hf1⟩
    refine hK _ _ hf1 ?_
    try simp only [Act.put, List.setIfInBounds_toArray, List.set_cons_zero, List.set_cons_succ]
    refine plan_reads ?_ (by rfl) (fun w' hR => ?_) ?_
    rotate_left
    · (go_simp; try with_reducible rfl)
    simp only [Act.put, List.setIfInBounds_toArray, List.set_cons_zero, List.set_cons_succ]
    refine plan_end ?_
    go_wp2_with fail
    go_ret
    exact ⟨g, rfl, hn1, (Fr.refl _ _).drew.trans hf1 (fun _ _ h => h)⟩

theorem putGo_word (r : Rou) (x : Str) (l : List Str) (n : Option Cr.Node) (h : Cr.kindOf x = 0) : Cr.putGo r (x :: l) n = Cr.wordGo (Cr.putGo r l) (x.length + 1) (nodeOr n) x := by
  simp only [Cr.putGo]
  rw [if_pos h]
  rfl
theorem putGo_param (r : Rou) (x : Str) (l : List Str) (n : Option Cr.Node) (h : Cr.kindOf x = 1) {es nx p rs e} (hn : nodeOr n = .mk es nx p rs e) : Cr.putGo r (x :: l) n = .mk es nx (some (Cr.putGo r l p)) rs e := by
  unfold nodeOr at hn
  simp only [Cr.putGo]
  rw [if_neg (by rw [h]; decide), hn]
  simp only [h, if_true]
theorem putGo_rest (r : Rou) (x : Str) (l : List Str) (n : Option Cr.Node) (h : Cr.kindOf x = 2) {es nx p rs e} (hn : nodeOr n = .mk es nx p rs e) : Cr.putGo r (x :: l) n = .mk es nx p (some (Cr.putGo r [] rs)) e := by
  unfold nodeOr at hn
  simp only [Cr.putGo]
  rw [if_neg (by rw [h]; decide), hn]
  simp only [h]
  rw [if_neg (by decide)]

set_option maxRecDepth 100000 in
set_option maxHeartbeats 4000000 in
theorem put_step (N : Nat) (hN1 : 1 ≤ N) (hN : N ≤ 900000) (k : Nat) (hput : PutHolds N k) : PutHolds N (k + 1) := by
  intro P Pl l r q n w A c hk hc hcm hs hr hnode0
  cases l with
  | nil => exact put_nil N hN P r q n w A c hnode0
  | cons x l =>
    obtain ⟨W0, hW0⟩ : ∃ W0, (w.alloc (.cells #[.slice A (l.length + 1) c] 68)).alloc (.cells #[.string ⟨r.method.toArray⟩, .string ⟨r.pattern.toArray⟩, .string ⟨r.handler.toArray⟩] 137) = W0 := ⟨_, rfl⟩
    have hf0 : Fr No w W0 := by rw [← hW0]; exact ((Fr.refl _ _).alloc _).alloc _
    have hb1 : Blk W0 w.heap.size 68 #[.slice A (l.length + 1) c] := by rw [← hW0]; exact (Blk.new w _ _).alloc _
    have hb2 : Blk W0 (w.heap.size + 1) 137 #[.string ⟨r.method.toArray⟩, .string ⟨r.pattern.toArray⟩, .string ⟨r.handler.toArray⟩] := by
      have := Blk.new (w.alloc (.cells #[.slice A (l.length + 1) c] 68)) 137 #[.string ⟨r.method.toArray⟩, .string ⟨r.pattern.toArray⟩, .string ⟨r.handler.toArray⟩]
      rw [World.size_alloc, hW0] at this
      exact this
    have hr0 := hr.fr hf0 (fun _ _ h => h)
    simp only [List.length_cons] at hk hc
    have hON := on_of_put N k hput W0 w.heap.size (w.heap.size + 1) Pl x l r A c (by omega) hb1 hb2 hr0 hc hcm (fun y hy => hs y (List.mem_cons_of_mem _ hy))
    have hnode : NodeAt (fun i => P i ∧ i < w.heap.size) N w q n := hnode0.mono (Nat.le_refl _) (fun i hi hp => ⟨hp, hi⟩)
    have hxl := hs x (List.mem_cons_self ..)
    obtain ⟨ga, off, rfl, hpl, hcell⟩ := hr0.form (by simp [strsV])
    have x0 : W0.cell? ⟨ga, off, none⟩ = some (.string ⟨x.toArray⟩) := hcell 0 _ rfl
    have l0 : W0.cell? ⟨w.heap.size, 0, none⟩ = some (.slice (some ⟨ga, off, none⟩) (l.length + 1) c) := hb1.cell 0
    have hl' : (0 : Int) < (l.length : Int) + 1 := by omega
    have hl0 : ((l.length : Int) + 1 == 0) = false := by rw [beq_eq_false_iff_ne]; omega
    have hsz0 : W0.heap.size = w.heap.size + 2 := by rw [← hW0]; simp
    have HON := Lib.hid hON
    have HN := Lib.hid hnode
    have HK := Lib.hid (fun W => kind_any W x hxl)
    have HW0 := Lib.hid hW0
    have x0' : ((w.alloc (.cells #[.slice (some ⟨ga, off, none⟩) (l.length + 1) c] 68)).alloc (.cells #[.string ⟨r.method.toArray⟩, .string ⟨r.pattern.toArray⟩, .string ⟨r.handler.toArray⟩] 137)).cell? ⟨ga, off, none⟩ = some (.string ⟨x.toArray⟩) := by rw [hW0]; exact x0
    have hb2c0 : W0.cell? ⟨w.heap.size + 1, 0, none⟩ = some (.string ⟨r.method.toArray⟩) := hb2.cell 0
    have hb2c1 : W0.cell? ⟨w.heap.size + 1, 1, none⟩ = some (.string ⟨r.pattern.toArray⟩) := hb2.cell 1
    have hb2c2 : W0.cell? ⟨w.heap.size + 1, 2, none⟩ = some (.string ⟨r.handler.toArray⟩) := hb2.cell 2
    clear hnode0 hnode hON hput hs hr hr0 hcell hW0
    go_enter Tryz.func113, Tryz.ntmps113
    go_wp2_with (go_at_call 116; refine (HK.out _).mono ?_)
    rintro e w1 ⟨rfl, hf1⟩
    rw [HW0.out] at hf1
    have hf1' : Fr No w w1 := hf0.trans hf1 (fun _ _ h => h)
    have x1 := hf1.cell x0 id
    have l1 := hf1.cell l0 id
    have hsz1 := hf1.size
    have h63 : (w.heap.size : Int) ≤ w1.heap.size := by omega
    rcases kind_three x with hkd | hkd | hkd
    · rw [hkd]
      have Hkd := Lib.hid hkd
      clear hkd x0'
      have HWo := Lib.hid (word_all N W0 w.heap.size (w.heap.size + 1) _ HON.out hN1 hN (x.length + 1) (fun i => P i ∧ i < w.heap.size) x q n w1 (by omega) hxl hf1 (HN.out.no hf1'))
      go_wp2_with (go_at_call 138; refine HWo.out.mono ?_)
      rintro e w2 ⟨g, rfl, hn2, hf2⟩
      go_wp2_with fail
      go_ret
      refine ⟨g, rfl, ?_, hf1'.trans hf2 (fun _ _ h => h)⟩
      rw [putGo_word r x l n Hkd.out]
      exact hn2.mono (Nat.le_refl _) (fun i _ hi => hi.elim (fun h => .inl h.1) (fun h => .inr (by omega)))
    · rw [hkd]
      have Hkd := Lib.hid hkd
      clear hkd x0'
      have HC := Lib.hid (copied_at (fun i => P i ∧ i < w.heap.size) N w1 q n (HN.out.no hf1') (by omega))
      go_wp2_with (go_at_call 136; refine HC.out.mono ?_)
      rintro e w2 ⟨g, A1, c1, pn, pp, pr, D, ps, es, nx, p, rs, ends, rfl, hnd, hcp, hf2⟩
      have Hnd := Lib.hid hnd
      clear hnd HC
      have p2 : w2.cell? ⟨g, 2, none⟩ = some (.pointer pp) := hcp.hb.cell 2
      have hf12 := hf1.trans hf2 (fun _ _ h => h)
      have HOc := Lib.hid (HON.out _ w2 pp p hf12 hcp.hp)
      go_wp2_with (go_at_call 137; refine HOc.out.mono ?_)
      rintro e w3 ⟨g3, rfl, hn3, hf3⟩
      have hcp3 := hcp.no hf3
      have p3 : w3.cell? ⟨g, 2, none⟩ = some (.pointer pp) := hcp3.hb.cell 2
      have z3 : w3.frozen? ⟨g, 2, none⟩ = false := hcp3.hb.frozen 2
      go_wp2_with fail
      go_ret
      have hg := hcp.hg
      have hglt := hcp.hb.lt
      have hsz2 := hf2.size
      have hfs : Fr (fun i => i = g) w3 (w3.setCell ⟨g, 2, none⟩ (.pointer (some ⟨g3, 0, none⟩))) := by
        refine Fr.setCell (Fr.refl _ _) ?_ _
        intro _; rfl
      have hPg : ∀ i, (P i ∧ i < w.heap.size) → ¬ i = g := fun i hi h => by omega
      refine ⟨g, rfl, ?_, ((hf1'.trans hf2 (fun _ _ h => h)).trans hf3 (fun _ _ h => h)).trans hfs (fun i hi h => by omega)⟩
      rw [putGo_param r x l n Hkd.out Hnd.out]
      have hown5 := hcp3.own.fr hfs hcp3.rowNe
      refine NodeAt.mk (P := fun i => P i ∨ w.heap.size ≤ i) (N := N + 1) g A1 D c1 ends.length pn (some ⟨g3, 0, none⟩) pr es ps nx (some (Cr.putGo r l p)) rs ends (.inr (by omega)) (hcp3.hb.set_ 2 (.pointer (some ⟨g3, 0, none⟩))) hown5.capOf (Nat.le_refl _) (fun h => hown5.nilOf h) hcp3.hps
        (by have := hcp3.hN; omega) (by have := hcp3.hM; omega) hcp3.ht (hown5.rd (fun i hi => .inr (by omega))) (hcp3.hD.over hfs hPg (fun i hi => .inl hi.1))
        (fun i t m q' h1 h2 => (hcp3.hes i t m q' h1 h2).over hfs hPg (by omega) (fun i hi => .inl hi.1)) (hcp3.hn.over hfs hPg (by omega) (fun i hi => .inl hi.1)) ?_ (hcp3.hr.over hfs hPg (by omega) (fun i hi => .inl hi.1))
      exact hn3.over hfs (fun i hi h => by rcases hi with hi | hi <;> omega) (Nat.le_refl _) (fun i hi => hi.elim (fun h => .inl h.1) (fun h => .inr (by omega)))
    · rw [hkd]
      have Hkd := Lib.hid hkd
      clear hkd x0'
      have HC := Lib.hid (copied_at (fun i => P i ∧ i < w.heap.size) N w1 q n (HN.out.no hf1') (by omega))
      go_wp2_with (go_at_call 136; refine HC.out.mono ?_)
      rintro e w2 ⟨g, A1, c1, pn, pp, pr, D, ps, es, nx, p, rs, ends, rfl, hnd, hcp, hf2⟩
      have Hnd := Lib.hid hnd
      clear hnd HC
      have p3 : w2.drew.cell? ⟨g, 3, none⟩ = some (.pointer pr) := hcp.hb.cell 3
      have hf02 := hf1.trans hf2 (fun _ _ h => h)
      have t0 : w2.drew.cell? ⟨w.heap.size + 1, 0, none⟩ = some (.string ⟨r.method.toArray⟩) := hf02.cell hb2c0 id
      have t1 : w2.drew.cell? ⟨w.heap.size + 1, 1, none⟩ = some (.string ⟨r.pattern.toArray⟩) := hf02.cell hb2c1 id
      have t2 : w2.drew.cell? ⟨w.heap.size + 1, 2, none⟩ = some (.string ⟨r.handler.toArray⟩) := hf02.cell hb2c2 id
      have HPn := Lib.hid (put_nil N hN (fun i => P i ∧ i < w.heap.size) r pr rs w2.drew none 0 (hcp.hr.no (Fr.refl _ _).drew))
      go_wp2_with fail
      refine wp_region_z (Fr No) (.read 0 (.read 1 (.read 2 (.read 3 (.read 4 (.read 5 (.eff 6 (.pure 7 (.read 8 (.last 9)))))))))) (by rfl) (PlanRel.refl _) (PlanRel.trans _) (by intro c a d v w h; cases d <;> exact h) (by kernel_rfl) (fun s hs => ?_) (by kernel_rfl)
      simp only [zOf, List.getElem?_toArray, List.getElem?_cons_succ, List.getElem?_cons_zero, Option.some.injEq] at hs
      subst hs
      refine z_reads ?_ (by rfl) (fun w' hR => ?_) ?_
      rotate_left
      · (go_simp; try with_reducible rfl)
      simp only [Act.put, List.setIfInBounds_toArray, List.set_cons_zero, List.set_cons_succ]
      refine z_reads ?_ (by rfl) (fun w' hR => ?_) ?_
      rotate_left
      · (go_simp; try with_reducible rfl)
      simp only [Act.put, List.setIfInBounds_toArray, List.set_cons_zero, List.set_cons_succ]
      refine z_reads ?_ (by rfl) (fun w' hR => ?_) ?_
      rotate_left
      · (go_simp; try with_reducible rfl)
      simp only [Act.put, List.setIfInBounds_toArray, List.set_cons_zero, List.set_cons_succ]
      refine z_reads ?_ (by rfl) (fun w' hR => ?_) ?_
      rotate_left
      · (go_simp; try with_reducible rfl)
      simp only [Act.put, List.setIfInBounds_toArray, List.set_cons_zero, List.set_cons_succ]
      refine z_reads ?_ (by rfl) (fun w' hR => ?_) ?_
      rotate_left
      · have hk1 := hR.cell p3 id
        (go_simp; try with_reducible rfl)
      simp only [Act.put, List.setIfInBounds_toArray, List.set_cons_zero, List.set_cons_succ]
      refine z_reads ?_ (by rfl) (fun w' hR => ?_) ?_
      rotate_left
      · have hk1 := hR.cell t0 id
        have hk2 := hR.cell t1 id
        have hk3 := hR.cell t2 id
        (go_simp; try with_reducible rfl)
      simp only [Act.put, List.setIfInBounds_toArray, List.set_cons_zero, List.set_cons_succ]
      refine z_does (by rfl) (fun K hK => ?_)
      go_simp
      refine HPn.out.mono ?_
      rintro e w3 ⟨g3, rfl, hn3, hf3⟩
      refine hK _ _ hf3 ?_
      have hf23 : Fr No w2 w3 := (Fr.refl _ _).drew.trans hf3 (fun _ _ h => h)
      have hcp3 := hcp.no hf23
      have q3 : w3.cell? ⟨g, 3, none⟩ = some (.pointer pr) := hcp3.hb.cell 3
      have z3 : w3.frozen? ⟨g, 3, none⟩ = false := hcp3.hb.frozen 3
      try simp only [Act.put, List.setIfInBounds_toArray, List.set_cons_zero, List.set_cons_succ]
      refine z_pure ?_ (by rfl) (fun w' => ?_) ?_
      rotate_left
      · (go_simp; try with_reducible rfl)
      simp only [Act.put, List.setIfInBounds_toArray, List.set_cons_zero, List.set_cons_succ]
      refine z_reads ?_ (by rfl) (fun w' hR => ?_) ?_
      rotate_left
      · (go_simp; try with_reducible rfl)
      simp only [Act.put, List.setIfInBounds_toArray, List.set_cons_zero, List.set_cons_succ]
      refine z_last (by rfl) (fun K hK => ?_)
      go_simp
      refine hK _ _ ?_
      go_wp2_with fail
      go_ret
      have hg := hcp.hg
      have hglt := hcp.hb.lt
      have hsz2 := hf2.size
      have hfs : Fr (fun i => i = g) w3 (w3.setCell ⟨g, 3, none⟩ (.pointer (some ⟨g3, 0, none⟩))) := by
        refine Fr.setCell (Fr.refl _ _) ?_ _
        intro _; rfl
      have hPg : ∀ i, (P i ∧ i < w.heap.size) → ¬ i = g := fun i hi h => by omega
      refine ⟨g, rfl, ?_, ((hf1'.trans hf2 (fun _ _ h => h)).trans hf23 (fun _ _ h => h)).trans hfs (fun i hi h => by omega)⟩
      rw [putGo_rest r x l n Hkd.out Hnd.out]
      have hown5 := hcp3.own.fr hfs hcp3.rowNe
      refine NodeAt.mk (P := fun i => P i ∨ w.heap.size ≤ i) (N := N + 1) g A1 D c1 ends.length pn pp (some ⟨g3, 0, none⟩) es ps nx p (some (Cr.putGo r [] rs)) ends (.inr (by omega)) (hcp3.hb.set_ 3 (.pointer (some ⟨g3, 0, none⟩))) hown5.capOf (Nat.le_refl _) (fun h => hown5.nilOf h) hcp3.hps
        (by have := hcp3.hN; omega) (by have := hcp3.hM; omega) hcp3.ht (hown5.rd (fun i hi => .inr (by omega))) (hcp3.hD.over hfs hPg (fun i hi => .inl hi.1))
        (fun i t m q' h1 h2 => (hcp3.hes i t m q' h1 h2).over hfs hPg (by omega) (fun i hi => .inl hi.1)) (hcp3.hn.over hfs hPg (by omega) (fun i hi => .inl hi.1)) (hcp3.hp.over hfs hPg (by omega) (fun i hi => .inl hi.1)) ?_
      exact hn3.over hfs (fun i hi h => hi.elim (fun hi => by omega) (fun hi => by have : w2.heap.size ≤ i := hi; omega)) (Nat.le_refl _) (fun i hi => hi.elim (fun h => .inl h.1) (fun h => .inr (by have : w2.heap.size ≤ i := h; omega)))

theorem put_all (N : Nat) (hN1 : 1 ≤ N) (hN : N ≤ 900000) : ∀ k, PutHolds N k
  | 0 => fun _ _ l _ _ _ _ _ _ hk => by omega
  | k + 1 => put_step N hN1 hN k (put_all N hN1 hN k)
end Go.Proofs.YthcbjeeajoliiaaGreatDoor
