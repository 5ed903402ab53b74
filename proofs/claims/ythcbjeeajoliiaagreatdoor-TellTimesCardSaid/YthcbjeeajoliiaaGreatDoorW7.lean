/- table.Check. -/
import Derived.Test.YthcbjeeajoliiaaGreatDoorW6
set_option linter.unusedVariables false
set_option linter.unusedSimpArgs false
namespace Go.Proofs.YthcbjeeajoliiaaGreatDoor
open Go.RowKit
open Cr (Str Rou)

theorem pattern_cases (s : Str) : (Cr.pattern s).1 = [] ∨ ∃ r, s.length = r.length + 1 ∧ Cr.pattern s = (Cr.words r 47, decide ((Cr.words r 47).length ≤ 8)) := by
  cases s with
  | nil => exact .inl rfl
  | cons c r =>
    by_cases hc : c = 47
    · by_cases hr : r = []
      · subst hr hc
        exact .inl rfl
      · by_cases hp : Cr.patternGo ((Cr.words r 47).length - 1) 0 [] (Cr.words r 47) = true
        · exact .inr ⟨r, rfl, by simp [Cr.pattern, hc, hr, hp]⟩
        · exact .inl (by simp [Cr.pattern, hc, hr, hp])
    · exact .inl (by simp [Cr.pattern, hc])
theorem pattern_len {s : Str} (h : (Cr.pattern s).2 = true) : (Cr.pattern s).1.length ≤ 8 := by
  rcases pattern_cases s with h0 | ⟨r, _, h0⟩
  · rw [h0]; simp
  · rw [h0] at h ⊢
    simpa using h
theorem pattern_small {s : Str} {x : Str} (h : x ∈ (Cr.pattern s).1) : x.length ≤ s.length := by
  rcases pattern_cases s with h0 | ⟨r, hl, h0⟩
  · rw [h0] at h; simp at h
  · rw [h0] at h
    have := words_small _ _ _ h
    omega

theorem rouV_at {l : List Rou} {k : Nat} {r : Rou} {P : Nat → Prop} {w : World} {gb off : Nat} (hcell : ∀ j u, (rousV l)[j]? = some u → w.cell? ⟨gb, off + j, none⟩ = some u) (hk : l[k]? = some r) :
    w.cell? ⟨gb, off + k * 3, none⟩ = some (.string ⟨r.method.toArray⟩) ∧ w.cell? ⟨gb, off + k * 3 + 1, none⟩ = some (.string ⟨r.pattern.toArray⟩) ∧ w.cell? ⟨gb, off + k * 3 + 2, none⟩ = some (.string ⟨r.handler.toArray⟩) := by
  have hx := flat_get rouV 3 (fun _ => rfl) l k r hk
  have q0 := hcell (k * 3 + 0) (.string ⟨r.method.toArray⟩) (hx 0 (by omega))
  have q1 := hcell (k * 3 + 1) (.string ⟨r.pattern.toArray⟩) (hx 1 (by omega))
  have q2 := hcell (k * 3 + 2) (.string ⟨r.handler.toArray⟩) (hx 2 (by omega))
  simp only [← Nat.add_assoc, Nat.add_zero] at q0 q1 q2
  exact ⟨q0, q1, q2⟩

theorem Fr.swap_new {B : Nat} {w : World} {a b : Array Value} {t : TypeId} (hB : B ≤ w.heap.size) : Fr (fun k => B ≤ k) (w.alloc (.cells a t)) (w.alloc (.cells b t)) :=
  ⟨rfl, rfl, rfl, by simp, fun k hk hn => by
    have h1 : k < w.heap.size := by omega
    rw [Below.heap_alloc w _ k h1, Below.heap_alloc w _ k h1]⟩

/-- Method and shape of each route. -/
def rkeys (l : List (Str × Str)) : List Value := l.map fun p => fldV p.1 p.2
theorem mem_rkeys {a b : Str} {l : List (Str × Str)} : fldV a b ∈ rkeys l ↔ (a, b) ∈ l := by
  unfold rkeys
  rw [List.mem_map]
  constructor
  · rintro ⟨p, hp, he⟩
    obtain ⟨h1, h2⟩ := fldV_inj he
    obtain ⟨p1, p2⟩ := p
    simp only at h1 h2
    subst h1 h2
    exact hp
  · exact fun h => ⟨_, h, rfl⟩

set_option maxRecDepth 100000 in
theorem check_any (P : Nat → Prop) (w : World) (hh : Hands w) (A : Option Addr) (c : Nat) (l : List Rou) (hr : Rd P w A (rousV l)) (hl : l.length ≤ 1000000) (hs : ∀ r ∈ l, rouSmall r) :
    Calls Tryz.prog 66 #[.slice A l.length c] w fun e w' => e = .returned (.int .i64 (Cr.checkRoutes l)) ∧ Fr No w w' := by
  have hmm := @run_makeMap Tryz.prog
  have hl' : (l.length : Int) ≤ 1000000 := by omega
  have HS := Lib.hid hs
  have Hh := Lib.hid hh
  clear hs hh
  go_enter Tryz.func66, Tryz.ntmps66
  go_wp2_with fail
  obtain ⟨bm, hbm⟩ : ∃ bm, w.heap.size = bm := ⟨_, rfl⟩
  have hset0 := SetAt.made w
  have hf0 : Fr No w (w.alloc (.map #[] 0)) := (Fr.refl _ _).alloc _
  rw [hbm] at hset0 ⊢
  have Hbm := Lib.hid hbm
  clear hbm
  obtain ⟨W0, hW0⟩ : ∃ W0, w.alloc (.map #[] 0) = W0 := ⟨_, rfl⟩
  rw [hW0] at hset0 hf0 ⊢
  clear hW0
  go_loopg [14] l.length (fun gm i wr => ∃ k : Nat, k + gm = l.length ∧ i = .int .i64 k ∧ Fr No W0 wr ∧ Hid (∀ r ∈ l.take k, Cr.rightRoute r = true))
  case atStart => exact ⟨0, by omega, rfl, Fr.refl _ _, (by simp : ∀ r ∈ l.take 0, Cr.rightRoute r = true)⟩
  case round =>
    obtain ⟨k, hk, rfl, hfr, HI⟩ := hrel
    have hfw := hf0.trans hfr (fun _ _ h => h)
    by_cases hlt : k < l.length
    · have hlt' : (k : Int) < (l.length : Int) := by omega
      obtain ⟨r, hx⟩ : ∃ r, l[k]? = some r := ⟨l[k], by simp [hlt]⟩
      obtain ⟨gb, off, rfl, hgb, hcell⟩ := hr.form (fun h => by have := rousV_length l; rw [h] at this; simp at this; omega)
      obtain ⟨p0, p1, p2⟩ := rouV_at (P := P) hcell hx
      have q0 := hfw.cell p0 id
      have q1 := hfw.cell p1 id
      have q2 := hfw.cell p2 id
      have hsm := HS.out r (List.mem_of_getElem? hx)
      have HR := Lib.hid (fun W hW => right_any W hW r hsm)
      have Hx := Lib.hid hx
      clear hx p0 p1 p2 hcell hsm
      have HR1 := Lib.hid (HR.out _ (Hh.out.fr (hfw.alloc (.cells #[.string ⟨r.method.toArray⟩, .string ⟨r.pattern.toArray⟩, .string ⟨r.handler.toArray⟩] 137)) id))
      go_wp2_with (go_at_call 94; refine HR1.out.mono ?_)
      rintro e w1 ⟨rfl, hf1⟩
      have hfr1 : Fr No W0 w1 := (hfr.alloc _).trans hf1 (fun _ _ h => h)
      by_cases hri : Cr.rightRoute r = true
      · rw [hri]
        have Hri := Lib.hid hri
        clear hri
        go_wp2_with fail
        go_roundg (gk - 1)
        case measure => omega
        case rel =>
          refine ⟨k + 1, by omega, by go_num, hfr1, ?_⟩
          intro y hy
          rw [List.take_add_one, Hx.out] at hy
          simp only [Option.toList_some, List.mem_append, List.mem_singleton] at hy
          rcases hy with hy | rfl
          · exact HI.out y hy
          · exact Hri.out
      · have hri' : Cr.rightRoute r = false := by simpa using hri
        rw [hri']
        have Hri := Lib.hid hri'
        clear hri hri'
        go_wp2_with fail
        go_ret
        refine ⟨?_, hf0.trans hfr1 (fun _ _ h => h)⟩
        have : Cr.checkRoutes l = 1 := by
          have ha : l.all Cr.rightRoute = false := by
            rw [List.all_eq_false]
            exact ⟨r, List.mem_of_getElem? Hx.out, by rw [Hri.out]; simp⟩
          unfold Cr.checkRoutes
          rw [ha]
          rfl
        rw [this]
        rfl
    · have hlt' : ¬ (k : Int) < (l.length : Int) := by omega
      have hall : ∀ r ∈ l, Cr.rightRoute r = true := by
        have := HI.out
        rwa [List.take_of_length_le (by omega)] at this
      have hck : Cr.checkRoutes l = if 24 < l.length then 2 else if Cr.clashGo [] l then 3 else 0 := by
        unfold Cr.checkRoutes
        rw [show l.all Cr.rightRoute = true from List.all_eq_true.2 hall]
        rfl
      have Hall := Lib.hid hall
      have Hck := Lib.hid hck
      clear hall hck HI
      by_cases h24 : 24 < l.length
      · have h24' : (24 : Int) < (l.length : Int) := by omega
        go_wp2_with fail
        go_ret
        refine ⟨?_, hfw⟩
        rw [Hck.out, if_pos h24]
        rfl
      · have h24' : ¬ (24 : Int) < (l.length : Int) := by omega
        go_wp2_with fail
        have hsetr := hset0.fr hfr id
        clear hset0 hfr hk hlt hlt'
        go_loopg [27] l.length (fun gm i wr => ∃ (k : Nat) (seen : List (Str × Str)), k + gm = l.length ∧ i = .int .i64 k ∧ SetAt wr bm (rkeys seen.reverse) ∧ Fr No w wr ∧
          Hid ((∀ p ∈ seen, p.1.length ≤ 1000000 ∧ p.2.length ≤ 100000000) ∧ Cr.clashGo [] l = Cr.clashGo seen (l.drop k)))
        case atStart => exact ⟨0, [], by omega, rfl, hsetr, hfw, ⟨by simp, rfl⟩⟩
        case round =>
          obtain ⟨k, seen, hk, rfl, hset, hfx, HI⟩ := hrel
          by_cases hlt : k < l.length
          · have hlt' : (k : Int) < (l.length : Int) := by omega
            obtain ⟨r, hx⟩ : ∃ r, l[k]? = some r := ⟨l[k], by simp [hlt]⟩
            obtain ⟨gb, off, rfl, hgb, hcell⟩ := hr.form (fun h => by have := rousV_length l; rw [h] at this; simp at this; omega)
            obtain ⟨p0, p1, p2⟩ := rouV_at (P := P) hcell hx
            have q0 := hfx.cell p0 id
            have q1 := hfx.cell p1 id
            have q2 := hfx.cell p2 id
            have hmem := List.mem_of_getElem? hx
            have hsm := HS.out r hmem
            have hri := Hall.out r hmem
            have hp2 : (Cr.pattern r.pattern).2 = true := by
              unfold Cr.rightRoute at hri
              simp only [Bool.and_eq_true] at hri
              exact hri.1.1
            have hp8 := pattern_len hp2
            have hpsm : ∀ x ∈ (Cr.pattern r.pattern).1, x.length ≤ 1000000 := fun x hx => Nat.le_trans (pattern_small hx) hsm.2.1
            have hdrop : l.drop k = r :: l.drop (k + 1) := by
              obtain ⟨h1, h2⟩ := List.getElem?_eq_some_iff.1 hx
              rw [List.drop_eq_getElem_cons h1, h2]
            have hstep : Cr.clashGo seen (l.drop k) = if seen.contains (r.method, Cr.shape (Cr.pattern r.pattern).1) then true else Cr.clashGo ((r.method, Cr.shape (Cr.pattern r.pattern).1) :: seen) (l.drop (k + 1)) := by
              rw [hdrop]
              simp only [Cr.clashGo]
            have hshl := shape_le _ _ hpsm
            have hshm : (Cr.pattern r.pattern).1.length * (1000000 + 2) ≤ 8 * (1000000 + 2) := Nat.mul_le_mul_right _ hp8
            have HP := Lib.hid (fun W => pattern_any W r.pattern hsm.2.1)
            rw [hp2] at HP
            generalize (Cr.pattern r.pattern).1 = pl at HP hp8 hpsm hstep hshl hshm
            have hshl' : (Cr.shape pl).length ≤ 10000000 := by omega
            have Hst := Lib.hid hstep
            have Hps := Lib.hid hpsm
            have hml := hsm.1
            clear hx p0 p1 p2 hcell hri hp2 hdrop hstep hpsm hshl hshm hsm hmem
            go_wp2_with (go_at_call 95; refine (HP.out _).mono ?_)
            rintro e w2 ⟨v, rfl, hown, hf2⟩
            obtain ⟨A2, c2, rfl, hc2, hr2⟩ := own_form hown
            have hf2' : Fr No wr w2 := ((Fr.refl _ _).alloc _).trans hf2 (fun _ _ h => h)
            obtain ⟨gr, hgr⟩ : ∃ gr, wr.heap.size = gr := ⟨_, rfl⟩
            have hblk := (Blk.new wr 137 #[.string ⟨r.method.toArray⟩, .string ⟨r.pattern.toArray⟩, .string ⟨r.handler.toArray⟩]).fr hf2 id
            rw [hgr] at hblk ⊢
            have s0 : w2.drew.cell? ⟨gr, 0, none⟩ = some (.string ⟨r.method.toArray⟩) := hblk.cell 0
            have HSh := Lib.hid (fun W (hW : Fr No w2 W) => shape_any (fun k => wr.heap.size ≤ k) W A2 c2 pl ((hr2.fr hW (fun _ _ h => h)).mono (fun k _ h => by have := h.1; simp at this; omega)) (by omega) Hps.out)
            have hset2 := hset.fr hf2' id
            clear hf2 hset hown
            go_wp2_with fail
            refine wp_region_tree (Fr (fun k => w2.heap.size ≤ k)) (.one 0 false (.one 1 false (.one 2 false (.two 3 (.one 4 false (.one 5 true (.one 6 true .nil))) 5 (.one 3 true (.one 4 false (.one 6 true .nil))))))) (by rfl) (PlanRel.refl _) (PlanRel.trans _) (by intro c a d v w h; cases d <;> exact h) (by kernel_rfl) (fun s hs => ?_) (by kernel_rfl)
            simp only [treeOf, List.getElem?_toArray, List.getElem?_cons_succ, List.getElem?_cons_zero, Option.some.injEq] at hs
            subst hs
            refine tree_reads ?_ (by rfl) (fun w' hR => ?_) ?_
            rotate_left
            · (go_simp; try with_reducible rfl)
            simp only [Act.put, List.setIfInBounds_toArray, List.set_cons_zero, List.set_cons_succ]
            refine tree_reads ?_ (by rfl) (fun w' hR => ?_) ?_
            rotate_left
            · have hk := hR.cell s0 (by have := hblk.lt; dsimp; omega)
              (go_simp; try with_reducible rfl)
            simp only [Act.put, List.setIfInBounds_toArray, List.set_cons_zero, List.set_cons_succ]
            refine tree_reads ?_ (by rfl) (fun w' hR => ?_) ?_
            rotate_left
            · (go_simp; try with_reducible rfl)
            simp only [Act.put, List.setIfInBounds_toArray, List.set_cons_zero, List.set_cons_succ]
            refine tree_two (by rfl) (by rfl) (fun K hK => ?_) (fun K hK => ?_)
            · go_simp
              refine (HSh.out _ ?hq).mono ?_
              case hq => first | exact (Fr.refl _ _).drew | exact ((Fr.refl _ _).alloc _).drew
              rintro e w3 ⟨rfl, hf3⟩
              refine hK _ _ (hf3.mono (fun _ _ h => absurd h id)) ?_
              try simp only [Act.put, List.setIfInBounds_toArray, List.set_cons_zero, List.set_cons_succ]
              refine tree_reads ?_ (by rfl) (fun w' hR => ?_) ?_
              rotate_left
              · (go_simp; try with_reducible rfl)
              simp only [Act.put, List.setIfInBounds_toArray, List.set_cons_zero, List.set_cons_succ]
              refine tree_does (by rfl) (fun K hK => ?_)
              go_simp
              refine hK _ _ ?hq ?_
              case hq => first | exact (Fr.refl _ _).alloc _ | exact ((Fr.refl _ _).alloc _).drew
              try simp only [Act.put, List.setIfInBounds_toArray, List.set_cons_zero, List.set_cons_succ]
              refine tree_does (by rfl) (fun K hK => ?_)
              go_simp
              refine hK _ _ (Fr.swap_new (by have := hf3.size; simpa using this)) ?_
              have hb4 := Blk.new w3 181 #[.string ⟨r.method.toArray⟩, .string ⟨(Cr.shape pl).toArray⟩]
              have hf4 : Fr No w2 (w3.alloc (.cells #[.string ⟨r.method.toArray⟩, .string ⟨(Cr.shape pl).toArray⟩] 181)) := (Fr.trans (Fr.refl No w2).drew hf3 (fun _ _ h => h)).alloc _
              generalize w3.alloc (.cells #[.string ⟨r.method.toArray⟩, .string ⟨(Cr.shape pl).toArray⟩] 181) = W4 at hb4 hf4 ⊢
              generalize w3.heap.size = g4 at hb4 ⊢
              clear hf3
              try simp only [Act.put, List.setIfInBounds_toArray, List.set_cons_zero, List.set_cons_succ]
              refine tree_end ?_
              have hf4' := hf2'.trans hf4 (fun _ _ h => h)
              have hset4 := hset2.fr hf4 id
              obtain ⟨kl, hkey⟩ := field_key r.method (Cr.shape pl) (by omega) (by omega)
              have hks : ∀ y ∈ rkeys seen.reverse, ∃ l, keyOf Tryz.prog 181 y = some l := by
                intro y hy
                obtain ⟨p, hp, rfl⟩ := List.mem_map.1 hy
                have := HI.out.1 p (by simpa using hp)
                exact field_key _ _ (by omega) (by omega)
              obtain ⟨rb, hlook, hmemk⟩ := hset4.look (t := 175) fieldKeyed Tryz.underlying175 (fun w => by kernel_rfl) hks hkey
              have hlook4 : (Instr.lookup 175 (.map (some bm)) (.agg #[.string ⟨r.method.toArray⟩, .string ⟨(Cr.shape pl).toArray⟩]) false).run Tryz.prog W4 = .ok (.bool rb) W4 := hlook W4 rfl
              rw [mem_rkeys] at hmemk
              have hcont : seen.contains (r.method, Cr.shape pl) = rb := by
                rw [Bool.eq_iff_iff, hmemk]
                simp
              have c0 : W4.cell? ⟨g4, 0, none⟩ = some (.string ⟨r.method.toArray⟩) := hb4.cell 0
              have c1 : W4.cell? ⟨g4, 1, none⟩ = some (.string ⟨(Cr.shape pl).toArray⟩) := hb4.cell 1
              clear hlook
              cases rb with
              | true =>
                have Hcont := Lib.hid hcont
                clear hcont hmemk
                go_wp2_with fail
                go_ret
                refine ⟨?_, hfx.trans hf4' (fun _ _ h => h)⟩
                have hcl : Cr.clashGo [] l = true := by
                  rw [HI.out.2, Hst.out, Hcont.out]
                  rfl
                rw [Hck.out, if_neg h24, hcl]
                rfl
              | false =>
                have hnot : fldV r.method (Cr.shape pl) ∉ rkeys seen.reverse := by
                  rw [mem_rkeys, ← hmemk]
                  simp
                have Hcont := Lib.hid hcont
                clear hcont hmemk
                go_wp2_with (at_mapUpdate; refine wpList_set_put rfl _ _ _ _ rfl 181 4 fieldKeyed Tryz.underlying175 bm (rkeys seen.reverse) rfl hset4 hks (fldV r.method (Cr.shape pl)) _ rfl rfl hkey hnot ?_)
                intro w5 hset5 hf5
                have hf5' : Fr No w w5 := (hfx.trans hf4' (fun _ _ h => h)).trans hf5 (fun i hi h => by have := Hbm.out; omega)
                go_wp2_with fail
                go_roundg (gk - 1)
                case measure => omega
                case rel =>
                  refine ⟨k + 1, (r.method, Cr.shape pl) :: seen, by omega, by go_num, ?_, hf5', ?_, ?_⟩
                  · rw [List.reverse_cons]
                    unfold rkeys at hset5 ⊢
                    rw [List.map_append]
                    exact hset5
                  · intro y hy
                    rcases List.mem_cons.1 hy with rfl | hy
                    · exact ⟨hml, by dsimp; omega⟩
                    · exact HI.out.1 y hy
                  · rw [HI.out.2, Hst.out, Hcont.out]
                    rfl
            · go_simp
              refine hK _ _ ?hq ?_
              case hq => first | exact (Fr.refl _ _).alloc _ | exact ((Fr.refl _ _).alloc _).drew
              try simp only [Act.put, List.setIfInBounds_toArray, List.set_cons_zero, List.set_cons_succ]
              refine tree_does (by rfl) (fun K hK => ?_)
              go_simp
              refine (HSh.out _ ?hq).mono ?_
              case hq => exact ((Fr.refl _ _).alloc _).drew
              rintro e w3 ⟨rfl, hf3⟩
              refine hK _ _ (hf3.mono (fun _ _ h => absurd h id)) ?_
              have hbk : Blk w3 w2.heap.size 181 #[.string ⟨#[]⟩, .string ⟨#[]⟩] := Blk.fr (S := No) (w := (w2.alloc (.cells #[.string ⟨#[]⟩, .string ⟨#[]⟩] 181)).drew) (Blk.new w2 181 #[.string ⟨#[]⟩, .string ⟨#[]⟩]) hf3 id
              have hbs := hbk.set_ 0 (.string ⟨r.method.toArray⟩)
              have hbs2 := hbs.set_ 1 (.string ⟨(Cr.shape pl).toArray⟩)
              have e0 : w3.cell? ⟨w2.heap.size, 0, none⟩ = some (.string ⟨#[]⟩) := hbk.cell 0
              have e1 : w3.frozen? ⟨w2.heap.size, 0, none⟩ = false := hbk.frozen 0
              have e2 : (w3.setCell ⟨w2.heap.size, 0, none⟩ (.string ⟨r.method.toArray⟩)).cell? ⟨w2.heap.size, 1, none⟩ = some (.string ⟨#[]⟩) := hbs.cell 1
              have e3 : (w3.setCell ⟨w2.heap.size, 0, none⟩ (.string ⟨r.method.toArray⟩)).frozen? ⟨w2.heap.size, 1, none⟩ = false := hbs.frozen 1
              try simp only [Act.put, List.setIfInBounds_toArray, List.set_cons_zero, List.set_cons_succ]
              refine tree_reads ?_ (by rfl) (fun w' hR => ?_) ?_
              rotate_left
              · (go_simp; try with_reducible rfl)
              simp only [Act.put, List.setIfInBounds_toArray, List.set_cons_zero, List.set_cons_succ]
              refine tree_does (by rfl) (fun K hK => ?_)
              go_simp
              refine hK _ _ ?hq ?_
              case hq =>
                refine Fr.setCell (Fr.setCell (Fr.refl _ _) ?_ _) ?_ _
                · intro _; exact Nat.le_refl _
                · intro _; exact Nat.le_refl _
              have hb4 : Blk ((w3.setCell ⟨w2.heap.size, 0, none⟩ (.string ⟨r.method.toArray⟩)).setCell ⟨w2.heap.size, 1, none⟩ (.string ⟨(Cr.shape pl).toArray⟩)) w2.heap.size 181 #[.string ⟨r.method.toArray⟩, .string ⟨(Cr.shape pl).toArray⟩] := hbs2
              have hf4 : Fr No w2 ((w3.setCell ⟨w2.heap.size, 0, none⟩ (.string ⟨r.method.toArray⟩)).setCell ⟨w2.heap.size, 1, none⟩ (.string ⟨(Cr.shape pl).toArray⟩)) := by
                refine Fr.setCell (Fr.setCell ((((Fr.refl No w2).alloc _).drew).trans hf3 (fun _ _ h => h)) ?_ _) ?_ _
                · intro h; exact absurd h (Nat.lt_irrefl _)
                · intro h; exact absurd h (Nat.lt_irrefl _)
              generalize (w3.setCell ⟨w2.heap.size, 0, none⟩ (.string ⟨r.method.toArray⟩)).setCell ⟨w2.heap.size, 1, none⟩ (.string ⟨(Cr.shape pl).toArray⟩) = W4 at hb4 hf4 ⊢
              clear e0 e1 e2 e3 hbk hbs hbs2 hf3
              generalize w2.heap.size = g4 at hb4 ⊢
              try simp only [Act.put, List.setIfInBounds_toArray, List.set_cons_zero, List.set_cons_succ]
              refine tree_end ?_
              have hf4' := hf2'.trans hf4 (fun _ _ h => h)
              have hset4 := hset2.fr hf4 id
              obtain ⟨kl, hkey⟩ := field_key r.method (Cr.shape pl) (by omega) (by omega)
              have hks : ∀ y ∈ rkeys seen.reverse, ∃ l, keyOf Tryz.prog 181 y = some l := by
                intro y hy
                obtain ⟨p, hp, rfl⟩ := List.mem_map.1 hy
                have := HI.out.1 p (by simpa using hp)
                exact field_key _ _ (by omega) (by omega)
              obtain ⟨rb, hlook, hmemk⟩ := hset4.look (t := 175) fieldKeyed Tryz.underlying175 (fun w => by kernel_rfl) hks hkey
              have hlook4 : (Instr.lookup 175 (.map (some bm)) (.agg #[.string ⟨r.method.toArray⟩, .string ⟨(Cr.shape pl).toArray⟩]) false).run Tryz.prog W4 = .ok (.bool rb) W4 := hlook W4 rfl
              rw [mem_rkeys] at hmemk
              have hcont : seen.contains (r.method, Cr.shape pl) = rb := by
                rw [Bool.eq_iff_iff, hmemk]
                simp
              have c0 : W4.cell? ⟨g4, 0, none⟩ = some (.string ⟨r.method.toArray⟩) := hb4.cell 0
              have c1 : W4.cell? ⟨g4, 1, none⟩ = some (.string ⟨(Cr.shape pl).toArray⟩) := hb4.cell 1
              clear hlook
              cases rb with
              | true =>
                have Hcont := Lib.hid hcont
                clear hcont hmemk
                go_wp2_with fail
                go_ret
                refine ⟨?_, hfx.trans hf4' (fun _ _ h => h)⟩
                have hcl : Cr.clashGo [] l = true := by
                  rw [HI.out.2, Hst.out, Hcont.out]
                  rfl
                rw [Hck.out, if_neg h24, hcl]
                rfl
              | false =>
                have hnot : fldV r.method (Cr.shape pl) ∉ rkeys seen.reverse := by
                  rw [mem_rkeys, ← hmemk]
                  simp
                have Hcont := Lib.hid hcont
                clear hcont hmemk
                go_wp2_with (at_mapUpdate; refine wpList_set_put rfl _ _ _ _ rfl 181 4 fieldKeyed Tryz.underlying175 bm (rkeys seen.reverse) rfl hset4 hks (fldV r.method (Cr.shape pl)) _ rfl rfl hkey hnot ?_)
                intro w5 hset5 hf5
                have hf5' : Fr No w w5 := (hfx.trans hf4' (fun _ _ h => h)).trans hf5 (fun i hi h => by have := Hbm.out; omega)
                go_wp2_with fail
                go_roundg (gk - 1)
                case measure => omega
                case rel =>
                  refine ⟨k + 1, (r.method, Cr.shape pl) :: seen, by omega, by go_num, ?_, hf5', ?_, ?_⟩
                  · rw [List.reverse_cons]
                    unfold rkeys at hset5 ⊢
                    rw [List.map_append]
                    exact hset5
                  · intro y hy
                    rcases List.mem_cons.1 hy with rfl | hy
                    · exact ⟨hml, by dsimp; omega⟩
                    · exact HI.out.1 y hy
                  · rw [HI.out.2, Hst.out, Hcont.out]
                    rfl
          · have hlt' : ¬ (k : Int) < (l.length : Int) := by omega
            go_wp2_with fail
            go_ret
            refine ⟨?_, hfx⟩
            have hcl : Cr.clashGo [] l = false := by
              rw [HI.out.2, List.drop_of_length_le (by omega)]
              rfl
            rw [Hck.out, if_neg h24, hcl]
            rfl
end Go.Proofs.YthcbjeeajoliiaaGreatDoor
