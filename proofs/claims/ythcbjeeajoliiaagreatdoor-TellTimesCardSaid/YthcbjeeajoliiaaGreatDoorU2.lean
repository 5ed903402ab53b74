/- A quiet server: connections on which nothing was sent. What it is; the net's Dial and Accept. -/
import Derived.Test.YthcbjeeajoliiaaGreatDoorU1
import Derived.Test.YthcbjeeajoliiaaGreatDoorV7
import Derived.Test.YthcbjeeajoliiaaGreatDoorT8
set_option linter.unusedVariables false
set_option linter.unusedSimpArgs false
namespace Go.Proofs.YthcbjeeajoliiaaGreatDoor
open Go.RowKit
open Cr (Str)

/-- No block of these types is in S. -/
def Off (S : Nat → Prop) (w : World) (ts : List TypeId) : Prop := ∀ k t cs, t ∈ ts → Blk w k t cs → ¬ S k
theorem Off.one {w : World} {g : Nat} {t : TypeId} {cs : Array Value} (h : Blk w g t cs) {ts : List TypeId} (ht : t ∉ ts) : Off (fun k => k = g) w ts := by
  rintro k t' cs' hm hb rfl
  refine hb.ne_ h ?_ rfl
  rintro rfl
  exact ht hm
theorem Off.no (w : World) (ts : List TypeId) : Off No w ts := fun _ _ _ _ _ h => h
theorem Off.less {S : Nat → Prop} {w : World} {ts ts' : List TypeId} (h : Off S w ts) (hs : ∀ t ∈ ts', t ∈ ts) : Off S w ts' := fun k t cs hm hb => h k t cs (hs t hm) hb

/-- Blocks of these types, laid from B on. -/
def TyS (B : Nat) (ts : List TypeId) (w : World) : Nat → Prop := fun k => B ≤ k ∧ ∃ t ∈ ts, ∃ cs, Blk w k t cs
theorem Off.ty {B : Nat} {w : World} {ts us : List TypeId} (h : ∀ t ∈ us, t ∉ ts) : Off (TyS B ts w) w us := by
  rintro k t cs hm hb ⟨_, t', ht', cs', hb'⟩
  by_cases he : t = t'
  · subst he
    exact h t hm ht'
  · exact hb.ne_ hb' he rfl
theorem TyS.base {B : Nat} {ts : List TypeId} {w w' : World} (h : Fr (TyS B ts w) w w') : Fr (fun k => B ≤ k) w w' := h.mono fun _ _ h => h.1
theorem TyS.then {B : Nat} {ts : List TypeId} {a b c : World} (h : Fr (TyS B ts a) a b) (k : Fr (TyS B ts b) b c) : Fr (TyS B ts a) a c := by
  refine ⟨k.os.trans h.os, k.tape.trans h.tape, k.output.trans h.output, Nat.le_trans h.size k.size, fun i hi hn => ?_⟩
  have hb := h.block i hi hn
  refine (k.block i (Nat.lt_of_lt_of_le hi h.size) ?_).trans hb
  rintro ⟨h1, t, ht, cs, hB⟩
  refine hn ⟨h1, t, ht, cs, ?_⟩
  unfold Blk at hB ⊢
  rw [← hb]
  exact hB
theorem TyS.more {B : Nat} {ts us : List TypeId} {w w' : World} (h : Fr (TyS B ts w) w w') (hs : ∀ t ∈ ts, t ∈ us) : Fr (TyS B us w) w w' := h.mono fun _ _ ⟨h1, t, ht, h2⟩ => ⟨h1, t, hs t ht, h2⟩
theorem TyS.set {B : Nat} {ts : List TypeId} {w : World} {g : Nat} {t : TypeId} {cs : Array Value} (hb : Blk w g t cs) (hB : B ≤ g) (ht : t ∈ ts) (i : Nat) (u : Value) : Fr (TyS B ts w) w (w.setCell ⟨g, i, none⟩ u) :=
  (Fr.refl _ _).setCell (fun _ => ⟨hB, t, ht, cs, hb⟩) u
theorem TyS.one {B : Nat} {ts : List TypeId} {w w' : World} {g : Nat} {t : TypeId} {cs : Array Value} (h : Fr (fun k => k = g) w w') (hb : Blk w g t cs) (hB : B ≤ g) (ht : t ∈ ts) : Fr (TyS B ts w) w w' :=
  h.mono fun k _ hk => hk ▸ ⟨hB, t, ht, cs, hb⟩
theorem TyS.none {B : Nat} {ts : List TypeId} {w w' : World} (h : Fr No w w') : Fr (TyS B ts w) w w' := h.mono fun _ _ h => absurd h id
theorem own_blk {w : World} {base : Nat} {e : TypeId} {size n k : Nat} {v : Value} {xs : List Value} (h : w.ownsRow base e size v n xs) (hk : v.ownBlock = some k) : base ≤ k ∧ ∃ cs, Blk w k e cs := by
  rcases h.2 with ⟨rfl, _⟩ | ⟨g, cap, cur, rfl, hb, hg, _⟩
  · cases hk
  · injection hk with hk
    subst hk
    exact ⟨hb, cur, hg⟩
theorem TyS.own {B : Nat} {ts : List TypeId} {w w' : World} {e : TypeId} {size n : Nat} {v : Value} {xs : List Value} (h : Fr (fun k => v.ownBlock = some k) w w') (ho : w.ownsRow B e size v n xs) (ht : e ∈ ts) : Fr (TyS B ts w) w w' :=
  h.mono fun k _ hk => ⟨(own_blk ho hk).1, e, ht, (own_blk ho hk).2⟩
theorem own_off {S : Nat → Prop} {w w' : World} {base : Nat} {e : TypeId} {size n : Nat} {v : Value} {xs : List Value} (h : w.ownsRow base e size v n xs) (hf : Fr S w w') (ho : Off S w [e]) : w'.ownsRow base e size v n xs :=
  h.fr hf fun k hk => by
    obtain ⟨_, cs, hb⟩ := own_blk h hk
    exact ho k e cs (by simp) hb
theorem Blk.off {S : Nat → Prop} {w w' : World} {g : Nat} {t : TypeId} {cs : Array Value} (h : Blk w g t cs) (hf : Fr S w w') (ho : Off S w [t]) : Blk w' g t cs := h.fr hf (ho g t cs (by simp) h)

theorem Off.own {w : World} {base : Nat} {e : TypeId} {size n : Nat} {v : Value} {xs : List Value} (h : w.ownsRow base e size v n xs) {ts : List TypeId} (ht : e ∉ ts) : Off (fun k => v.ownBlock = some k) w ts := by
  intro k t cs hm hb hk
  obtain ⟨_, cs', hb'⟩ := own_blk h hk
  refine hb.ne_ hb' ?_ rfl
  rintro rfl
  exact ht hm

/-- Pointers to blocks, numbers, as cells. -/
def ptrsV (bs : List Nat) : List Value := bs.map fun b => .pointer (some ⟨b, 0, none⟩)
def natsV (ds : List Nat) : List Value := ds.map fun (d : Nat) => .int .i64 (d : Int)
theorem ptrsV_length (bs : List Nat) : (ptrsV bs).length = bs.length := by simp [ptrsV]
theorem ptrsV_at {bs : List Nat} {i b : Nat} (h : bs[i]? = some b) : (ptrsV bs)[i]? = some (.pointer (some ⟨b, 0, none⟩)) := by simp [ptrsV, h]
theorem natsV_at {bs : List Nat} {i b : Nat} (h : bs[i]? = some b) : (natsV bs)[i]? = some (.int .i64 b) := by simp [natsV, h]

/-- The numbers of the clients that wait. -/
def Dials (B : Nat) (w : World) (u : Value) (ds : List Nat) : Prop := ∃ D c, u = .slice D ds.length c ∧ ds.length ≤ c ∧ (ds ≠ [] → ∃ gD off cs, D = some ⟨gD, off, none⟩ ∧ B ≤ gD ∧ Blk w gD 3 cs ∧ ∀ (j x : Nat), ds[j]? = some x → cs[off + j]? = some (.int .i64 x))
theorem Dials.off {S : Nat → Prop} {B : Nat} {w w' : World} {u : Value} {ds : List Nat} (h : Dials B w u ds) (hf : Fr S w w') (ho : Off S w [3]) : Dials B w' u ds := by
  obtain ⟨D, c, hu, hc, h⟩ := h
  refine ⟨D, c, hu, hc, fun hne => ?_⟩
  obtain ⟨gD, off, cs, h1, h2, h3, h4⟩ := h hne
  exact ⟨gD, off, cs, h1, h2, h3.off hf ho, h4⟩
theorem Dials.of_own {B : Nat} {w : World} {u : Value} {ds : List Nat} (h : w.ownsRow B 3 1 u ds.length (natsV ds)) : Dials B w u ds := by
  rcases h.2 with ⟨rfl, h0⟩ | ⟨g, cap, cur, rfl, hb, hg, h1, h2, h3, h4⟩
  · have : ds = [] := List.eq_nil_of_length_eq_zero h0
    subst this
    exact ⟨none, 0, rfl, Nat.le_refl _, fun h => absurd rfl h⟩
  · refine ⟨_, cap, rfl, h1, fun _ => ⟨g, 0, cur, rfl, hb, hg, fun j x hx => ?_⟩⟩
    have hj := natsV_at hx
    rw [← h4, List.getElem?_take] at hj
    split at hj
    · rw [← Array.getElem?_toList, Nat.zero_add]
      exact hj
    · cases hj

/-- The net: the clients' blocks, those that wait. -/
structure QNet (B : Nat) (w : World) (gN : Nat) (bs ds : List Nat) : Prop where
  base : B ≤ gN
  row : ∃ v u, Blk w gN 56 #[v, u] ∧ w.ownsRow B 66 1 v bs.length (ptrsV bs) ∧ Dials B w u ds
  conns : ∀ b ∈ bs, B ≤ b ∧ ∃ t c, Blk w b 70 (qconnV t c)
  lt : ∀ d ∈ ds, d < bs.length
theorem QNet.off {S : Nat → Prop} {B : Nat} {w w' : World} {gN : Nat} {bs ds : List Nat} (h : QNet B w gN bs ds) (hf : Fr S w w') (ho : Off S w [56, 66, 3, 70]) : QNet B w' gN bs ds := by
  obtain ⟨h1, ⟨v, u, h2, h3, h4⟩, h5, h6⟩ := h
  refine ⟨h1, ⟨v, u, h2.off hf (ho.less (by simp)), own_off h3 hf (ho.less (by simp)), h4.off hf (ho.less (by simp))⟩, fun b hb => ?_, h6⟩
  obtain ⟨h7, t, c, h8⟩ := h5 b hb
  exact ⟨h7, t, c, h8.off hf (ho.less (by simp))⟩
/-- While nobody was taken. -/
structure QNetD (B : Nat) (w : World) (gN : Nat) (bs ds : List Nat) : Prop where
  base : B ≤ gN
  row : ∃ v u, Blk w gN 56 #[v, u] ∧ w.ownsRow B 66 1 v bs.length (ptrsV bs) ∧ w.ownsRow B 3 1 u ds.length (natsV ds)
  conns : ∀ b ∈ bs, B ≤ b ∧ ∃ t c, Blk w b 70 (qconnV t c)
  lt : ∀ d ∈ ds, d < bs.length
theorem QNetD.off {S : Nat → Prop} {B : Nat} {w w' : World} {gN : Nat} {bs ds : List Nat} (h : QNetD B w gN bs ds) (hf : Fr S w w') (ho : Off S w [56, 66, 3, 70]) : QNetD B w' gN bs ds := by
  obtain ⟨h1, ⟨v, u, h2, h3, h4⟩, h5, h6⟩ := h
  refine ⟨h1, ⟨v, u, h2.off hf (ho.less (by simp)), own_off h3 hf (ho.less (by simp)), own_off h4 hf (ho.less (by simp))⟩, fun b hb => ?_, h6⟩
  obtain ⟨h7, t, c, h8⟩ := h5 b hb
  exact ⟨h7, t, c, h8.off hf (ho.less (by simp))⟩
theorem QNetD.quiet {B : Nat} {w : World} {gN : Nat} {bs ds : List Nat} (h : QNetD B w gN bs ds) : QNet B w gN bs ds := by
  obtain ⟨h1, ⟨v, u, h2, h3, h4⟩, h5, h6⟩ := h
  exact ⟨h1, ⟨v, u, h2, h3, .of_own h4⟩, h5, h6⟩
theorem QNetD.new {B : Nat} {w : World} {gN : Nat} (h : NetNew B w gN) : QNetD B w gN [] [] :=
  ⟨h.1, ⟨_, _, h.2, ⟨by simp [ptrsV], .inl ⟨rfl, rfl⟩⟩, ⟨by simp [natsV], .inl ⟨rfl, rfl⟩⟩⟩, by simp, by simp⟩

set_option maxRecDepth 100000 in
theorem dial_quiet (B : Nat) (w : World) (gN : Nat) (bs ds : List Nat) (h : QNetD B w gN bs ds) (hB : B ≤ w.heap.size) (hn : bs.length ≤ 1000) (hd : ds.length ≤ 1000) :
    Calls Tryz.prog 26 #[.pointer (some ⟨gN, 0, none⟩)] w fun e w' => ∃ b, e = .returned (.int .i64 bs.length) ∧ QNetD B w' gN (bs ++ [b]) (ds ++ [bs.length]) ∧ Fr (TyS B [56, 66, 3] w) w w' := by
  obtain ⟨hbase, ⟨v, u, hb, hov, hou⟩, hcs, hlt⟩ := h
  obtain ⟨A0, k0, rfl, hk0, _⟩ := own_form hov
  obtain ⟨D0, l0, rfl, hl0, _⟩ := own_form hou
  have c0 : w.cell? ⟨gN, 0, none⟩ = some (.slice A0 bs.length k0) := hb.cell 0
  have hsz := hb.lt
  have Hov := Lib.hid hov
  have Hou := Lib.hid hou
  have Hcs := Lib.hid hcs
  have Hlt := Lib.hid hlt
  clear hov hou hcs hlt
  obtain ⟨nb, hnb⟩ : ∃ n, bs.length = n := ⟨_, rfl⟩
  obtain ⟨nd, hnd⟩ : ∃ n, ds.length = n := ⟨_, rfl⟩
  have Hnb := Lib.hid hnb
  have Hnd := Lib.hid hnd
  rw [hnb] at Hov c0 hb hk0 hn ⊢
  rw [hnd] at Hou hb hl0 hd
  clear hnb hnd
  have hf0 : Fr No w (w.alloc (.cells (qconnV false false) 70)) := (Fr.refl _ _).alloc _
  have hnew : Blk (w.alloc (.cells (qconnV false false) 70)) w.heap.size 70 (qconnV false false) := Blk.new _ _ _
  go_enter Tryz.func26, Tryz.ntmps26
  go_wp2_with (at_builtin; go_must (refine wpList_app (Pr := fun _ => True) _ rfl (.tmp 7) (.tmp 10) _ rfl B 66 _ 1 8 Tryz.underlying53 infoConnP rfl (by decide) (.slice A0 nb k0) nb (ptrsV bs) rfl ?a0 _ 1 1 [.pointer (some ⟨w.heap.size, 0, none⟩)] rfl rfl ?a2 ?a3 ?a4 (by decide) ?a5 ?_))
  case a0 => exact (Hov.out.fr hf0 (fun _ _ => id)).alloc _
  case a2 => exact Rd.mono (Rd.newAt (by simp) rfl) (fun _ _ _ => trivial)
  case a3 => intro u hu; simp at hu; subst hu; rfl
  case a4 => omega
  case a5 => simp; omega
  intro v1 w1 hown1 hf1' hob
  have hfA : Fr No w ((w.alloc (.cells (qconnV false false) 70)).alloc (.cells #[.pointer (some ⟨w.heap.size, 0, none⟩)] 66)) := hf0.alloc _
  have hoA := Hov.out.fr hfA (fun _ _ => id)
  have hT1 : Fr (TyS B [56, 66, 3] w) w w1 := TyS.then (TyS.none hfA) (TyS.own hf1' hoA (by simp))
  have hb1 := (hb.fr hfA id).off hf1' (Off.own hoA (by decide))
  have hou1 := own_off (Hou.out.fr hfA (fun _ _ => id)) hf1' (Off.own hoA (by decide))
  have hnew1 := (hnew.alloc (.cells #[.pointer (some ⟨w.heap.size, 0, none⟩)] 66)).off hf1' (Off.own hoA (by decide))
  have hcs1 : ∀ b ∈ bs, B ≤ b ∧ ∃ t c, Blk w1 b 70 (qconnV t c) := fun b hb => by
    obtain ⟨h1, t, c, h2⟩ := Hcs.out b hb
    exact ⟨h1, t, c, (h2.fr hfA id).off hf1' (Off.own hoA (by decide))⟩
  have Hcs1 := Lib.hid hcs1
  clear hcs1 hb hoA hfA hf1' hnew hf0 c0
  obtain ⟨A1, c1, rfl, hc1, _⟩ := own_form hown1
  have Hown1 := Lib.hid hown1
  have Hou1 := Lib.hid hou1
  have hw1 := hT1.size
  clear hown1 hou1
  have r0 : w1.cell? ⟨gN, 0, none⟩ = some (.slice A0 nb k0) := hb1.cell 0
  have z0 : w1.frozen? ⟨gN, 0, none⟩ = false := hb1.frozen 0
  have hb2 := hb1.set_ 0 (.slice A1 (nb + 1) c1)
  have hf2 : Fr (fun i => i = gN) w1 (w1.setCell ⟨gN, 0, none⟩ (.slice A1 (nb + 1) c1)) := by
    refine Fr.setCell (Fr.refl _ _) ?_ _
    intro _; rfl
  have r1 : (w1.setCell ⟨gN, 0, none⟩ (.slice A1 (nb + 1) c1)).drew.cell? ⟨gN, 0, none⟩ = some (.slice A1 (nb + 1) c1) := hb2.cell 0
  have r2 : (w1.setCell ⟨gN, 0, none⟩ (.slice A1 (nb + 1) c1)).drew.cell? ⟨gN, 1, none⟩ = some (.slice D0 nd l0) := hb2.cell 1
  go_wp2_with fail
  obtain ⟨W2, hW2⟩ : ∃ W2, w1.setCell ⟨gN, 0, none⟩ (.slice A1 (nb + 1) c1) = W2 := ⟨_, rfl⟩
  rw [hW2] at hb2 hf2 r1 r2 ⊢
  clear hW2 r0 z0
  have hw0 : IntKind.i64.wrap (nb : Int) = nb := IntWalk.i64_in _ (by omega)
  have hT2 : Fr (TyS B [56, 66, 3] w) w W2 := TyS.then hT1 (TyS.one hf2 hb1 hbase (by simp))
  have hnew2 := hnew1.off hf2 (Off.one hb1 (by decide))
  have hown2 := own_off Hown1.out hf2 (Off.one hb1 (by decide))
  have hou2 := own_off Hou1.out hf2 (Off.one hb1 (by decide))
  have hcs2 : ∀ b ∈ bs, B ≤ b ∧ ∃ t c, Blk W2 b 70 (qconnV t c) := fun b hb => by
    obtain ⟨h1, t, c, h2⟩ := Hcs1.out b hb
    exact ⟨h1, t, c, h2.off hf2 (Off.one hb1 (by decide))⟩
  have hgo : ¬ (Value.slice D0 nd l0).ownBlock = some gN := Off.own (ts := [56]) hou2 (by decide) gN 56 _ (by simp) hb2
  have Hcs2 := Lib.hid hcs2
  have Hown2 := Lib.hid hown2
  have Hou2 := Lib.hid hou2
  clear hcs2 hown2 hou2 hf2 hb1 hT1 Hcs1 Hown1 Hou1 hnew1
  have hw2 := hT2.size
  have Hgo := Lib.hid hgo
  clear hgo
  refine wp_region_z (Fr (fun k => (Value.slice D0 nd l0).ownBlock = some k)) (.read 0 (.read 1 (.read 2 (.read 3 (.read 4 (.read 5 (.read 6 (.read 7 (.read 8 (.read 9 (.read 10 (.eff 11 (.eff 12 (.pure 13 (.read 14 (.last 15)))))))))))))))) (by rfl) (PlanRel.refl _) (PlanRel.trans _) (by intro c a d v w h; cases d <;> exact h) (by kernel_rfl) (fun s hs => ?_) (by kernel_rfl)
  simp only [zOf, List.getElem?_toArray, List.getElem?_cons_succ, List.getElem?_cons_zero, Option.some.injEq] at hs
  subst hs
  refine z_reads ?_ (by rfl) (fun w' hR => ?_) ?_
  rotate_left
  · (go_simp; try with_reducible rfl)
  simp only [Act.put, List.setIfInBounds_toArray, List.set_cons_zero, List.set_cons_succ]
  refine z_reads ?_ (by rfl) (fun w' hR => ?_) ?_
  rotate_left
  · (go_simp; try with_reducible rfl)
  simp only [Act.put, List.setIfInBounds_toArray, List.set_cons_zero, List.set_cons_succ]
  refine z_reads ?_ (by rfl) (fun w' hR => ?_) ?_
  rotate_left
  · (go_simp; try with_reducible rfl)
  simp only [Act.put, List.setIfInBounds_toArray, List.set_cons_zero, List.set_cons_succ]
  refine z_reads ?_ (by rfl) (fun w' hR => ?_) ?_
  rotate_left
  · (go_simp; try with_reducible rfl)
  simp only [Act.put, List.setIfInBounds_toArray, List.set_cons_zero, List.set_cons_succ]
  refine z_reads ?_ (by rfl) (fun w' hR => ?_) ?_
  rotate_left
  · have hk := hR.cell r2 Hgo.out
    (go_simp; try with_reducible rfl)
  simp only [Act.put, List.setIfInBounds_toArray, List.set_cons_zero, List.set_cons_succ]
  refine z_reads ?_ (by rfl) (fun w' hR => ?_) ?_
  rotate_left
  · (go_simp; try with_reducible rfl)
  simp only [Act.put, List.setIfInBounds_toArray, List.set_cons_zero, List.set_cons_succ]
  refine z_reads ?_ (by rfl) (fun w' hR => ?_) ?_
  rotate_left
  · (go_simp; try with_reducible rfl)
  simp only [Act.put, List.setIfInBounds_toArray, List.set_cons_zero, List.set_cons_succ]
  refine z_reads ?_ (by rfl) (fun w' hR => ?_) ?_
  rotate_left
  · (go_simp; try with_reducible rfl)
  simp only [Act.put, List.setIfInBounds_toArray, List.set_cons_zero, List.set_cons_succ]
  refine z_reads ?_ (by rfl) (fun w' hR => ?_) ?_
  rotate_left
  · have hk := hR.cell r1 Hgo.out
    (go_simp; try with_reducible rfl)
  simp only [Act.put, List.setIfInBounds_toArray, List.set_cons_zero, List.set_cons_succ]
  refine z_reads ?_ (by rfl) (fun w' hR => ?_) ?_
  rotate_left
  · (go_simp; try with_reducible rfl)
  simp only [Act.put, List.setIfInBounds_toArray, List.set_cons_zero, List.set_cons_succ]
  refine z_reads ?_ (by rfl) (fun w' hR => ?_) ?_
  rotate_left
  · (go_simp; try with_reducible rfl)
  simp only [Act.put, List.setIfInBounds_toArray, List.set_cons_zero, List.set_cons_succ]
  refine z_does (by rfl) (fun K hK => ?_)
  go_simp
  refine hK _ _ ?hq ?_
  case hq => exact (Fr.refl _ _).alloc _
  try simp only [Act.put, List.setIfInBounds_toArray, List.set_cons_zero, List.set_cons_succ]
  refine z_does (by rfl) (fun K hK => ?_)
  refine op_app (Pr := fun _ => True) _ (.tmp 18) (.tmp 25) _ rfl B 3 _ 1 8 Tryz.underlying54 infoInt rfl (by decide) (.slice D0 nd l0) nd (natsV ds) rfl ?a0 _ 1 1 [.int .i64 nb] rfl rfl ?b2 ?b3 ?b4 (by decide) ?b5 ?_
  case a0 => exact (Hou2.out.fr ((Fr.refl No _).alloc _) (fun _ _ => id)).drew
  case b2 => exact Rd.mono ((Rd.newAt (w := W2) (t := 3) (cs := #[.int .i64 nb]) rfl rfl).fr (Fr.refl No _).drew (fun _ _ h => h)) (fun _ _ _ => trivial)
  case b3 => intro u hu; simp at hu; subst hu; rfl
  case b4 => omega
  case b5 => simp; omega
  intro v3 w3 hown3 hf3' hob3
  obtain ⟨A3, c3, rfl, hc3, _⟩ := own_form hown3
  refine hK _ _ hf3' ?_
  have hoB : ((W2.alloc (.cells #[.int .i64 nb] 3)).drew).ownsRow B 3 1 (.slice D0 nd l0) nd (natsV ds) := (Hou2.out.fr ((Fr.refl No _).alloc _) (fun _ _ => id)).drew
  have hfB : Fr No W2 ((W2.alloc (.cells #[.int .i64 nb] 3)).drew) := ((Fr.refl _ _).alloc _).drew
  have hb3 := (hb2.fr hfB id).off hf3' (Off.own hoB (by decide))
  have q0 : w3.cell? ⟨gN, 1, none⟩ = some (.slice D0 nd l0) := hb3.cell 1
  have q1 : w3.frozen? ⟨gN, 1, none⟩ = false := hb3.frozen 1
  have hb4 := hb3.set_ 1 (.slice A3 (nd + 1) c3)
  try simp only [Act.put, List.setIfInBounds_toArray, List.set_cons_zero, List.set_cons_succ]
  refine z_pure ?_ (by rfl) (fun w' => ?_) ?_
  rotate_left
  · (go_simp; try with_reducible rfl)
  simp only [Act.put, List.setIfInBounds_toArray, List.set_cons_zero, List.set_cons_succ]
  refine z_reads ?_ (by rfl) (fun w' hR => ?_) ?_
  rotate_left
  · (go_simp; try with_reducible rfl)
  simp only [Act.put, List.setIfInBounds_toArray, List.set_cons_zero, List.set_cons_succ]
  refine z_last (by rfl) (fun K hK => ?_)
  go_simp
  refine hK _ _ ?_
  have r5 : (w3.setCell ⟨gN, 1, none⟩ (.slice A3 (nd + 1) c3)).cell? ⟨gN, 0, none⟩ = some (.slice A1 (nb + 1) c1) := hb4.cell 0
  go_wp2_with fail
  go_ret
  have hf4 : Fr (fun i => i = gN) w3 (w3.setCell ⟨gN, 1, none⟩ (.slice A3 (nd + 1) c3)) := by
    refine Fr.setCell (Fr.refl _ _) ?_ _
    intro _; rfl
  have hown4 := own_off (own_off (Hown2.out.fr hfB (fun _ _ => id)) hf3' (Off.own hoB (by decide))) hf4 (Off.one hb3 (by decide))
  have hou4 := own_off hown3 hf4 (Off.one hb3 (by decide))
  have hnew4 := ((hnew2.fr hfB id).off hf3' (Off.own hoB (by decide))).off hf4 (Off.one hb3 (by decide))
  have e1 := Hnb.out
  have e2 := Hnd.out
  refine ⟨w.heap.size, rfl, ⟨hbase, ⟨_, _, hb4, ?_, ?_⟩, ?_, ?_⟩, ?_⟩
  · simpa [ptrsV, e1] using hown4
  · simpa [natsV, e1, e2] using hou4
  · intro b hb
    rcases List.mem_append.1 hb with hb | hb
    · obtain ⟨h1, t, c, h2⟩ := Hcs2.out b hb
      exact ⟨h1, t, c, ((h2.fr hfB id).off hf3' (Off.own hoB (by decide))).off hf4 (Off.one hb3 (by decide))⟩
    · obtain rfl : b = w.heap.size := by simpa using hb
      exact ⟨hB, false, false, hnew4⟩
  · intro d hd
    rw [List.length_append]
    rcases List.mem_append.1 hd with hd | hd
    · have := Hlt.out d hd
      simp; omega
    · simp at hd
      simp; omega
  · exact TyS.then hT2 (TyS.then (TyS.none hfB) (TyS.then (TyS.own hf3' hoB (by simp)) (TyS.one hf4 hb3 hbase (by simp))))
end Go.Proofs.YthcbjeeajoliiaaGreatDoor
